/-
  The law SpecRuns (layer 29).
-/
import Derived.Test.YtmdeeokejdkceaaDoorM4
import Derived.Test.YtmdeeokejdkceaaDoorM1
import Derived.Test.YtmdeeokejdkceaaDoorRows
import Derived.Test.YtmdeeokejdkceaaDoorChecked
import Derived.JoinedOf
import Derived.SevenTiedAt
import Derived.LaidMore
import Derived.Lay
import Derived.Test.YtmdeeokejdkceaaDoorTie
import Derived.Test.YtmdeeokejdkceaaDoorCards
import Derived.Stop.Joined
set_option linter.unusedSimpArgs false
set_option linter.unusedVariables false
namespace Go.Proofs.YtmdeeokejdkceaaDoor
open Go.Vx Go.ChangeShapes Go.WideShapes Go.ChangeAt Go.RowKit
theorem neAnSame {σ : Env} {ty t' : TypeId} {x y : Operand} (a : An) (hx : Env.ev σ x = some (.agg a.cells.toArray)) (hy : Env.ev σ y = some (.agg a.cells.toArray)) : PureOp Tryd.prog (.binOp .neq 29 x y t') ty σ (.bool false) := by
  obtain ⟨q, h1, h2⟩ := an_feqD 9998 a a
  have := p_neStruct (P := Tryd.prog) (t := 29) (ty := ty) (t' := t') hx hy h1
  rw [h2 rfl] at this
  exact this
theorem eqAnSame {σ : Env} {ty t' : TypeId} {x y : Operand} (a : An) (hx : Env.ev σ x = some (.agg a.cells.toArray)) (hy : Env.ev σ y = some (.agg a.cells.toArray)) : PureOp Tryd.prog (.binOp .eql 29 x y t') ty σ (.bool true) := by
  obtain ⟨q, h1, h2⟩ := an_feqD 9998 a a
  have := p_eqStruct (P := Tryd.prog) (t := 29) (ty := ty) (t' := t') hx hy h1
  rw [h2 rfl] at this
  exact this
theorem mdo0_s (G : GH) (c : Cm) : Con Tryd.prog 8 #[.pointer none, .agg c.cells.toArray] G [] (Just (.agg zA.cells.toArray) G) := by
  have q : Con Tryd.prog 28 #[.pointer none, .agg c.cells.toArray] G [] (Just (.tuple [.agg zA.cells.toArray, .bool false].toArray) G) := by
    apply Con.just
    obtain ⟨kind, client, seq, key, val, old, node⟩ := c
    (refine v_enter Tryd.func28 rfl Tryd.ntmps28 rfl ?_; intro B _)
    repeat' (first | (apply v_box (d := 3) (zs := Cm.cells ⟨kind, client, seq, key, val, old, node⟩); (case hx => rfl); (case hz => rfl); (case hd => rfl); intro b3) | (apply v_alloc (d := 4); (case hz => rfl); (case hd => rfl); intro b4) | apply v_seq | apply v_region | apply v_nil | apply v_skip | apply v_block | apply v_blk | (apply v_pass; (case hg => rfl); (case hn => rfl); (case hd => rfl)) | (apply v_pure; (case hop => first | (apply p_move <;> rfl) | (apply p_assign <;> rfl) | (apply p_pickT <;> rfl) | (apply p_eqNil <;> rfl) | (apply p_build; (case hz => rfl); (case hv => (simp only [List.map_cons, List.map_nil]; repeat (with_reducible exact evs_nil))); (case hb => (apply bldL; repeat (exact bld_nil)))) | fail); (case hd => rfl)) | (apply v_condT; (case hc => rfl)) | (apply v_store; (case hp => rfl); (case hx => rfl); (case hc => rfl); (case hsz => rfl); (case h1 => rfl); (case hb => (repeat (exact mhd _))); (case hfit => exact nle rfl); (case hov => ((repeat (first | with_reducible exact ov_nil | apply ov_cons)); done)); (case hu => repeat (exact Upd.here _ _))) | fail)
    refine v_retM [] (outsM_cell_tmp (sz := 6) (vs := zA.cells) (e := 29) rfl rfl rfl (by repeat (exact mhd _)) rfl) (List.nil_sublist _) ⟨rfl, rfl⟩
  apply Con.just
  obtain ⟨kind, client, seq, key, val, old, node⟩ := c
  (refine v_enter Tryd.func8 rfl Tryd.ntmps8 rfl ?_; intro B _)
  repeat' (first | (apply v_box (d := 3) (zs := Cm.cells ⟨kind, client, seq, key, val, old, node⟩); (case hx => rfl); (case hz => rfl); (case hd => rfl); intro b3) | (apply v_alloc (d := 4); (case hz => rfl); (case hd => rfl); intro b4) | (apply v_alloc (d := 5); (case hz => rfl); (case hd => rfl); intro b5) | (apply v_read; (case hop => (apply r_loadNo; (case hx => rfl); (case h => repeat (first | exact mhd _ | apply mtl)); (case hd => rfl); (case hn => rfl))); (case hd => rfl)) | apply v_seq | apply v_region | apply v_nil | (apply v_pure; (case hop => first | (apply p_move <;> rfl) | (apply p_assign <;> rfl) | (apply p_extract0 <;> rfl) | (apply p_extract1 <;> rfl) | fail); (case hd => rfl)) | (apply v_callJ (hs := q); (case ha => rfl); (case hd => rfl)) | (apply v_store; (case hp => rfl); (case hx => rfl); (case hc => rfl); (case hsz => rfl); (case h1 => rfl); (case hb => (repeat (first | exact mhd _ | apply mtl))); (case hfit => exact nle rfl); (case hov => (first | ((repeat (first | with_reducible exact ov_nil | apply ov_cons)); done) | rfl)); (case hu => repeat (first | exact Upd.here _ _ | apply Upd.there))) | fail)
  refine v_retM [] (outsM_cell (sz := 6) (vs := zA.cells) (e := 29) rfl rfl (by repeat (first | exact mhd _ | apply mtl)) rfl) (List.nil_sublist _) ⟨rfl, rfl⟩
set_option maxHeartbeats 4000000 in
theorem specRuns_law {W : World} {v0 : Value} (hT : TabsG (ghost W)) (g0 : ∃ l : List Cm, Sl (ghost W) 7 CmR v0 l) : LawCon Tryd.prog 3 #[v0] W := by
  obtain ⟨l, hl0⟩ := g0
  obtain ⟨hl, hok⟩ := cms_of hl0
  unfold LawCon
  generalize ghost W = G at *
  have q2 := lg28_s hl
  have qa := fun G' (h : GH.le G G') => awake29_s (hT.up h)
  obtain ⟨LA, lc, rfl, hlc, hcm, hsome, hcp⟩ := rowOpen hl
  simp only [maxLen] at hcm
  (refine v_enter Tryd.func3 rfl Tryd.ntmps3 rfl ?_; intro B _)
  repeat' (first | apply v_seq | apply v_region | apply v_nil | (apply v_pure; (case hop => first | (apply p_move <;> rfl) | (apply p_assign <;> rfl) | fail); (case hd => rfl)) | fail)
  refine v_call (μ1 := []) rfl q2 (List.Perm.refl _) rfl ?_
  rintro _ G1 _ - ⟨hG1, rfl, b1, rfl, h1⟩
  subst G1
  cases b1 with
  | true =>
    repeat' (first | apply v_seq | apply v_region | apply v_nil | (apply v_condT; (case hc => rfl)) | fail)
    refine v_call (μ1 := []) rfl (qa _ (GH.le_refl _)) (List.Perm.refl _) rfl ?_
    rintro _ G9 _ - ⟨rfl, rfl⟩
    repeat' (first | apply v_nil | (apply v_pure; (case hop => (apply p_assign <;> rfl)); (case hd => rfl)) | fail)
    refine v_ret [] (outsA1 rfl rfl) (by repeat (exact List.Sublist.refl _)) ?_
    rfl
  | false =>
    have hcs := h1 rfl
    have hlw : CmsW l := ⟨by have := hcs.1; omega, fun c hc => ⟨hok c hc, (hcs.2 c hc).1, (hcs.2 c hc).2.1⟩⟩
    have hn := hcs.1
    repeat' (first | apply v_seq | apply v_region | apply v_nil | apply v_skip | (apply v_condF; (case hc => rfl)) | fail)
    refine v_call (μ1 := []) rfl (mnew_s _) (List.Perm.refl _) rfl ?_
    rintro _ G4 _ - ⟨hG4, mb, kb, rfl, rfl⟩
    subst G4
    repeat' (first | apply v_seq | apply v_region | apply v_nil | apply v_block | (apply v_pure; (case hop => (apply p_assign <;> rfl)); (case hd => rfl)) | fail)
    refine v_loop [4, 0, 3] (fun us G' μ' => GH.le G G' ∧ ∃ (k : Nat) (D : List Ls) (oM : Obj), k ≤ l.length ∧ us = [Value.int .i64 (k : Nat), .slice LA l.length lc, .pointer (some ⟨mb, 0, none⟩)] ∧ μ' = [(mb, mcO kb (decide ((specA emp [] (l.take k)).1.schema = 2)) D), (kb, oM)] ∧ MachR (specA emp [] (l.take k)).1 D ∧ MapP (specA emp [] (l.take k)).1.pairs oM) (fun us => l.length - (headI us).toNat) rfl ⟨GH.le_refl _, 0, D0, _, by omega, rfl, rfl, mach0, map0⟩ ?_
    rintro us G5 _ ⟨hle5, k, D, oM, hk, rfl, rfl, hm1, hM1⟩
    have e1 : ((k : Nat) : Int).toNat = k := by omega
    by_cases hlt : k < l.length
    · have hA := hsome (by omega)
      have hck := (rowOpen' (hl.mono hle5)).2.2.2.2.2.2 k hlt
      obtain ⟨hxo, hxw⟩ := hlw.2 _ (List.getElem_mem hlt)
      have hok1 : StP (specA emp [] (l.take k)).1 := specA_ok _ emp_ok
      have hdo := mdo_s (hT.up hle5) (mb := mb) (kb := kb) (l[k]) hok1 hm1 hM1 hxo hxw.2
      have hsn : specA emp [] (l.take (k + 1)) = ((specS (specA emp [] (l.take k)).1 l[k]).1, (specA emp [] (l.take k)).2 ++ [(specS (specA emp [] (l.take k)).1 l[k]).2]) := by rw [List.take_succ_eq_append_getElem hlt, specA_snoc]
      have hal : (specA emp [] (l.take k)).2.length = k := by rw [specA_len, List.length_take]; simp; omega
      have hokn : StP (specA emp [] (l.take (k + 1))).1 := specA_ok _ emp_ok
      have hlt2 : ∀ G', GH.le G G' → Cms G' (.slice LA (k + 1) lc) (l.take (k + 1)) := fun G' h => (hl.mono h).take (by omega)
      have hlw2 : CmsW (l.take (k + 1)) := ⟨by rw [List.length_take]; omega, fun c hc => hlw.2 c (List.mem_of_mem_take hc)⟩
      have hrr := fun G' h => refRun29_s (hlt2 G' h) hlw2
      have htl : (l.take (k + 1)).length = k + 1 := by rw [List.length_take]; omega
      clear hxo hxw
      generalize hres : specA emp [] (l.take (k + 1)) = res at *
      generalize specA emp [] (l.take k) = st at *
      generalize specS st.1 l[k] = ap at *
      subst hsn
      obtain ⟨s5, ⟨ac, aq, ae, af, av5, ar⟩⟩ := ap
      generalize l[k] = x at *
      obtain ⟨kind, cl, seq, key, val, old, node⟩ := x
      simp only at *
      repeat' (first | (apply v_read; (case hop => (apply r_loadN; rfl; exact CellsAt.frozen hck; rfl)); (case hd => rfl)) | apply v_seq | apply v_region | apply v_nil | apply v_skip | apply v_block | (apply v_pure; (case hop => first | (apply p_move <;> rfl) | (apply p_lt <;> rfl) | (apply p_lenSlice <;> rfl) | (apply p_indexAddrS; (case hx => rfl); (case hi => rfl); (case h0 => omega); (case h => omega); (case hA => assumption)) | fail); (case hd => rfl)) | (apply v_cond; (case hc => rfl); all_goals (intro h; (try simp only [reduceCtorEq, zzz] at h); first | (exfalso; omega) | skip)) | fail)
      refine v_call (μ1 := [(mb, mcO kb (decide (st.1.schema = 2)) D), (kb, oM)]) rfl hdo (PickA.perm (by repeat (exact PickA.last))) rfl ?_
      rintro _ G6 _ hle6 ⟨D2, oM2, rfl, hm2, hM2, rfl⟩
      repeat' (first | (apply v_alloc (d := 5); (case hz => rfl); (case hd => rfl); intro b5) | apply v_seq | apply v_region | apply v_nil | (apply v_pure; (case hop => first | (apply p_move <;> rfl) | (apply p_add; (case hx => rfl); (case hy => rfl); (case h => omega)) | (apply p_sliceH; (case hx => rfl); (case hh => rfl); all_goals omega) | fail); (case hd => rfl)) | (apply v_store; (case hp => rfl); (case hx => rfl); (case hc => rfl); (case hsz => rfl); (case h1 => rfl); (case hb => (repeat (exact mhd _))); (case hfit => exact nle rfl); (case hov => ((repeat (first | with_reducible exact ov_nil | apply ov_cons)); done)); (case hu => repeat (exact Upd.here _ _))) | fail)
      refine v_call (μ1 := []) rfl (hrr G6 (GH.le_trans hle5 hle6)) (List.Perm.refl _) rfl ?_
      rintro _ G7 ν7 hle7 ⟨v7, av7, rfl, hs7, hg7⟩
      obtain ⟨A7, c7, A7', c7', rfl, -, -⟩ := id hs7
      refine v_frzP ν7 (List.Perm.refl _) ?_
      intro G8 hle8 hG8
      have ha8 := row_of_grow An.len hg7 hG8
      obtain ⟨BA, bc, rfl, hblc, hbcm, hbsome, hbcp⟩ := rowOpen ha8
      have hbl : (st.2 ++ [(⟨ac, aq, ae, af, av5, ar⟩ : An)]).length = k + 1 := by rw [List.length_append, hal]; rfl
      have hBA := hbsome (by omega)
      have hbk := hbcp k (by omega)
      rw [List.getElem_append_right (by omega)] at hbk
      simp only [hal, Nat.sub_self, List.getElem_cons_zero] at hbk
      rw [hbl]
      have hs8 := hs7.up hle8
      have qs := fun G => mState_s (G := G) (mb := mb) (kb := kb) hokn hm2 hM2
      have q7 : ∀ (G : GH) (u v : Value), StV G s5 u → StV G s5 v → Con Tryd.prog 10 #[u, v] G [] (Just (.bool true) G) := fun G u v h1 h2 =>
        (refSame_s h1 h2).mono fun _ _ _ ⟨y1, y2, b, y3, y4⟩ => ⟨by rw [y3, y4 rfl], y1, y2⟩
      have qact := fun G => mActive_s (G := G) (mb := mb) (kb := kb) (act := decide (s5.schema = 2)) (D := D2)
      repeat' (first | (apply v_alloc (d := 6); (case hz => rfl); (case hd => rfl); intro b6) | apply v_seq | apply v_nil | (apply v_pure; (case hop => first | (apply p_move <;> rfl) | (apply p_assign <;> rfl) | (apply p_extract0 <;> rfl) | (apply p_extract1 <;> rfl) | fail); (case hd => rfl)) | (apply v_store; (case hp => rfl); (case hx => rfl); (case hc => rfl); (case hsz => rfl); (case h1 => rfl); (case hb => (repeat (exact mhd _))); (case hfit => exact nle rfl); (case hov => ((repeat (first | with_reducible exact ov_nil | apply ov_cons)); done)); (case hu => repeat (exact Upd.here _ _))) | fail)
      refine v_perm (ν := [(b6, .cells [.int .i64 s5.schema, .slice A7 s5.pairs.length c7, .slice A7' s5.sess.length c7'].toArray 36 (0, 0)), (b5, .cells [.int .i64 ac, .int .i64 aq, .int .i64 ae, .bool af, .string av5, .int .i64 ar].toArray 29 (0, 0)), (mb, mcO kb (decide (s5.schema = 2)) D2), (kb, oM2)]) (List.Perm.refl _) ?_
      refine v_has (σ' := [(7, .slice BA (k + 1) bc), (6, .pointer (some ⟨b6, 0, none⟩)), (5, .pointer (some ⟨b5, 0, none⟩)), (4, .int .i64 (k : Nat)), (0, .slice LA l.length lc), (3, .pointer (some ⟨mb, 0, none⟩))]) ⟨rfl, rfl, rfl, rfl, rfl, rfl, trivial⟩ ?_
      refine d_start [(b6, .cells [.int .i64 s5.schema, .slice A7 s5.pairs.length c7, .slice A7' s5.sess.length c7'].toArray 36 (0, 0)), (b5, .cells [.int .i64 ac, .int .i64 aq, .int .i64 ae, .bool af, .string av5, .int .i64 ar].toArray 29 (0, 0))] (by kernel_rfl) (by kernel_rfl) (by kernel_rfl) (by intro e he; (simp only [List.mem_cons, List.not_mem_nil, or_false] at he; rcases he with rfl | rfl <;> simp; done)) ?_
      all_goals (apply dtk 0; (case hi => rfl); (case hop => (apply r_loadNo; (case hx => rfl); (case h => (repeat (first | exact mhd _ | apply mtl))); (case hd => (repeat (first | with_reducible exact dt_nil | apply dt_here))); (case hn => rfl))); (case hq => kernel_rfl))
      all_goals (apply dtk 1; (case hi => rfl); (case hop => (apply prd; apply p_move <;> rfl)); (case hq => kernel_rfl))
      all_goals (apply dtk 2; (case hi => rfl); (case hop => (apply prd; apply p_move <;> rfl)); (case hq => kernel_rfl))
      all_goals (apply dtk 3; (case hi => rfl); (case hop => (apply prd; apply p_indexAddrS; (case hx => rfl); (case hi => rfl); (case h0 => omega); (case h => omega); (case hA => assumption))); (case hq => kernel_rfl))
      all_goals (apply dtk 4; (case hi => rfl); (case hop => ((apply r_loadN; rfl; exact CellsAt.frozen hbk; rfl))); (case hq => kernel_rfl))
      all_goals (apply dtk 5; (case hi => rfl); (case hop => ((apply prd; apply neAnSame ⟨ac, aq, ae, af, av5, ar⟩; (case hx => rfl); (case hy => rfl)))); (case hq => kernel_rfl))
      all_goals (apply dtk 6; (case hi => rfl); (case hop => (apply prd; apply p_move <;> rfl)); (case hq => kernel_rfl))
      all_goals (try (apply d_guardB 7; (case hi => rfl); (case hgd => rfl); (case h1 => rfl); (case h2 => rfl); all_goals (intro h; (try simp only [reduceCtorEq, zzz] at h))))
      all_goals (apply dtg 7; (case hi => rfl); (case hg => rfl); (case hop => (apply prd; apply p_move <;> rfl)); (case hq => kernel_rfl))
      all_goals (try (apply d_guardB 9; (case hi => rfl); (case hgd => rfl); (case h1 => rfl); (case h2 => rfl); all_goals (intro h; (try simp only [reduceCtorEq, zzz] at h))))
      all_goals (apply dtg 9; (case hi => rfl); (case hg => rfl); (case hop => (apply r_loadNo; (case hx => rfl); (case h => (repeat (exact mhd _))); (case hd => (repeat (first | with_reducible exact dt_nil | apply dt_here))); (case hn => rfl))); (case hq => kernel_rfl))
      all_goals (try (apply d_guardB 8; (case hi => rfl); (case hgd => rfl); (case h1 => rfl); (case h2 => rfl); all_goals (intro h; (try simp only [reduceCtorEq, zzz] at h))))
      all_goals ((apply d_callG 8 (hs := qs _) (μ1 := [(mb, mcO kb (decide (s5.schema = 2)) D2), (kb, oM2)]) (μ2 := [(b6, .cells [.int .i64 s5.schema, .slice A7 s5.pairs.length c7, .slice A7' s5.sess.length c7'].toArray 36 (0, 0)), (b5, .cells [.int .i64 ac, .int .i64 aq, .int .i64 ae, .bool af, .string av5, .int .i64 ar].toArray 29 (0, 0))]); (case hi => rfl); (case hg => rfl); (case hr => kernel_rfl);  (case ha => rfl); (case hp => exact (by apply perm_of_count; intro p; simp only [List.append_eq, List.countP_append, List.countP_cons, List.countP_nil, Nat.zero_add, Nat.add_zero]; try ac_rfl)); (case hd => rfl); (case hν' => intro e he; exact he); rintro v9 G9 _ hle9 ⟨hs9, rfl⟩; obtain ⟨A9, c9, A9', c9', rfl, -, -⟩ := id hs9))
      all_goals (try (apply d_guardB 10; (case hi => rfl); (case hgd => rfl); (case h1 => rfl); (case h2 => rfl); all_goals (intro h; (try simp only [reduceCtorEq, zzz] at h))))
      all_goals (apply d_callJG 10 (hs := (q7 _ _ _ hs9 (hs8.up hle9))); (case hi => rfl); (case hg => rfl); (case hr => kernel_rfl); (case ha => rfl); (case hd => rfl))
      all_goals (try (apply d_guardB 11; (case hi => rfl); (case hgd => rfl); (case h1 => rfl); (case h2 => rfl); all_goals (intro h; (try simp only [reduceCtorEq, zzz] at h))))
      all_goals (apply dtg 11; (case hi => rfl); (case hg => rfl); (case hop => (apply prd; apply p_not <;> rfl)); (case hq => kernel_rfl))
      all_goals (apply dtk 12; (case hi => rfl); (case hop => (apply prd; apply p_pickF <;> rfl)); (case hq => kernel_rfl))
      all_goals (apply dtk 13; (case hi => rfl); (case hop => (apply prd; apply p_move <;> rfl)); (case hq => kernel_rfl))
      all_goals (try (apply d_guardB 14; (case hi => rfl); (case hgd => rfl); (case h1 => rfl); (case h2 => rfl); all_goals (intro h; (try simp only [reduceCtorEq, zzz] at h))))
      all_goals (apply dtg 14; (case hi => rfl); (case hg => rfl); (case hop => (apply prd; apply p_move <;> rfl)); (case hq => kernel_rfl))
      all_goals (try (apply d_guardB 16; (case hi => rfl); (case hgd => rfl); (case h1 => rfl); (case h2 => rfl); all_goals (intro h; (try simp only [reduceCtorEq, zzz] at h))))
      all_goals (apply dtg 16; (case hi => rfl); (case hg => rfl); (case hop => (apply prd; apply p_fieldAddrB <;> rfl)); (case hq => kernel_rfl))
      all_goals (try (apply d_guardB 17; (case hi => rfl); (case hgd => rfl); (case h1 => rfl); (case h2 => rfl); all_goals (intro h; (try simp only [reduceCtorEq, zzz] at h))))
      all_goals (apply dtg 17; (case hi => rfl); (case hg => rfl); (case hop => (apply r_load1; rfl; (apply Cell.own; (case h => (repeat (exact mhd _))); rfl))); (case hq => kernel_rfl))
      all_goals (try (apply d_guardB 18; (case hi => rfl); (case hgd => rfl); (case h1 => rfl); (case h2 => rfl); all_goals (intro h; (try simp only [reduceCtorEq, zzz] at h))))
      all_goals (apply dtg 18; (case hi => rfl); (case hg => rfl); (case hop => (apply prd; apply p_eq <;> rfl)); (case hq => kernel_rfl))
      all_goals (try (apply d_guardB 15; (case hi => rfl); (case hgd => rfl); (case h1 => rfl); (case h2 => rfl); all_goals (intro h; (try simp only [reduceCtorEq, zzz] at h))))
      all_goals (apply d_callKG 15 (hs := (qact _)); (case hi => rfl); (case hg => rfl); (case hr => kernel_rfl); (case ha => rfl); (case hp => exact (Pick.perm (by repeat (exact Pick.here _)))); (case hd => rfl))
      all_goals (try (apply d_guardB 19; (case hi => rfl); (case hgd => rfl); (case h1 => rfl); (case h2 => rfl); all_goals (intro h; (try simp only [reduceCtorEq, zzz] at h))))
      all_goals (apply dtg 19; (case hi => rfl); (case hg => rfl); (case hop => (apply prd; apply p_neB <;> rfl)); (case hq => kernel_rfl))
      all_goals (apply dtk 20; (case hi => rfl); (case hop => (apply prd; apply p_pickF <;> rfl)); (case hq => kernel_rfl))
      all_goals (apply d_done; (case hr => kernel_rfl))
      all_goals repeat' (first | apply v_seq | apply v_region | apply v_nil | apply v_skip | apply v_blk | (apply v_pure; (case hop => first | (apply p_move <;> rfl) | (apply p_assign <;> rfl) | (apply p_add; (case hx => rfl); (case hy => rfl); (case h => omega)) | fail); (case hd => rfl)) | (apply v_cond; (case hc => rfl); all_goals (intro h; (try simp only [reduceCtorEq, zzz] at h))) | fail)
      all_goals first
        | (exfalso; exact absurd dec_eq.symm (by assumption))
        | (refine v_perm (ν := [(mb, mcO kb (decide (s5.schema = 2)) D2), (kb, oM2), (b6, .cells [.int .i64 s5.schema, .slice A7 s5.pairs.length c7, .slice A7' s5.sess.length c7'].toArray 36 (0, 0)), (b5, .cells [.int .i64 ac, .int .i64 aq, .int .i64 ae, .bool af, .string av5, .int .i64 ar].toArray 29 (0, 0))]) (by exact List.Perm.refl _) ?_
           refine v_drop (ν := [(mb, mcO kb (decide (s5.schema = 2)) D2), (kb, oM2)]) (by repeat (first | exact List.nil_sublist _ | apply List.Sublist.cons_cons)) ?_
           exact v_again rfl ⟨GH.le_trans hle5 (GH.le_trans hle6 (GH.le_trans hle7 (GH.le_trans hle8 hle9))), k + 1, D2, oM2, by omega, rfl, by rw [hres], by rw [hres]; exact hm2, by rw [hres]; exact hM2⟩ (by simp [headI]; omega))
    · obtain rfl : k = l.length := by omega
      have q9 := refRun29_s (hl.mono hle5) hlw
      repeat' (first | apply v_seq | apply v_region | apply v_nil | (apply v_exit; (case hp => rfl)) | (apply v_pure; (case hop => first | (apply p_move <;> rfl) | (apply p_lt <;> rfl) | (apply p_lenSlice <;> rfl) | fail); (case hd => rfl)) | (apply v_cond; (case hc => rfl); all_goals (intro h; (try simp only [reduceCtorEq, zzz] at h); first | (exfalso; omega) | skip)) | fail)
      refine v_call (μ1 := []) rfl q9 (List.Perm.refl _) rfl ?_
      rintro _ G7 ν7 hle7 ⟨v7, av7, rfl, hs7, hg7⟩
      obtain ⟨A7, c7, A7', c7', rfl, -, -⟩ := id hs7
      refine v_frzP ν7 (List.Perm.refl _) ?_
      intro G8 hle8 hG8
      have ha8 := row_of_grow An.len hg7 hG8
      obtain ⟨BA, bc, rfl, -⟩ := id (rowOpen ha8)
      have hle58 := GH.le_trans hle5 (GH.le_trans hle7 hle8)
      have q10 := answers_s (hT.up hle58) (hl.mono hle58) hlw
      repeat' (first | (apply v_alloc (d := 8); (case hz => rfl); (case hd => rfl); intro b8) | apply v_seq | apply v_region | apply v_nil | (apply v_pure; (case hop => first | (apply p_move <;> rfl) | (apply p_assign <;> rfl) | (apply p_extract0 <;> rfl) | (apply p_extract1 <;> rfl) | fail); (case hd => rfl)) | (apply v_store; (case hp => rfl); (case hx => rfl); (case hc => rfl); (case hsz => rfl); (case h1 => rfl); (case hb => (repeat (exact mhd _))); (case hfit => exact nle rfl); (case hov => ((repeat (first | with_reducible exact ov_nil | apply ov_cons)); done)); (case hu => repeat (exact Upd.here _ _))) | fail)
      refine v_call (μ1 := []) rfl q10 (List.Perm.refl _) rfl ?_
      rintro r5 G9 ν9 hle9 hg9
      refine v_frzP ν9 (List.Perm.refl _) ?_
      intro G10 hle10 hG10
      have ha10 := row_of_grow An.len hg9 hG10
      obtain ⟨CA, cc, rfl, -⟩ := id (rowOpen ha10)
      have q11 : Con Tryd.prog 13 #[.slice CA (specA emp [] l).2.length cc, .slice BA (specA emp [] l).2.length bc] G10 [] (Just (.bool true) G10) :=
        (refAnswers_s ha10 (ha8.mono (GH.le_trans hle9 hle10))).mono fun _ _ _ ⟨y1, y2, b, y3, y4⟩ => ⟨by rw [y3, y4 rfl], y1, y2⟩
      have q12 := mActive0_s G10
      have q13 := mdo0_s G10 ⟨1, 0, 0, ByteArray.empty, ByteArray.empty, ByteArray.empty, 0⟩
      have q14 := mState0_s G10
      repeat' (first | (apply v_pure; (case hop => apply eqAnSame zA; (case hx => rfl); (case hy => rfl)); (case hd => rfl)) | (apply v_take; (case hg => rfl)) | (apply v_pure; (case hop => first | (apply p_move <;> rfl) | (apply p_eqs <;> rfl) | (apply p_pickT <;> rfl) | (apply p_not <;> rfl) | (apply p_field1 <;> rfl) | (apply p_build; (case hz => rfl); (case hv => (simp only [List.map_cons, List.map_nil]; repeat (first | with_reducible exact evs_nil | (apply evs_cons; (case h1 => rfl))))); (case hb => (apply bldL; repeat (first | exact bld_nil | (apply bld_cons; (case hpf => rfl); (case hc => rfl); (case hs => rfl); (case hl => rfl); (case ho => ((repeat (first | with_reducible exact ov_nil | apply ov_cons)); done))))))) | fail); (case hd => rfl)) | (apply v_callJ (hs := q11); (case ha => rfl); (case hd => rfl)) | (apply v_callJ (hs := q12); (case ha => rfl); (case hd => rfl)) | (apply v_callJ (hs := q13); (case ha => rfl); (case hd => rfl)) | (apply v_callJ (hs := q14); (case ha => rfl); (case hd => rfl)) | fail)
      refine v_call (μ1 := []) rfl (qa _ (GH.le_trans hle58 (GH.le_trans hle9 hle10))) (List.Perm.refl _) rfl ?_
      rintro _ G11 _ - ⟨rfl, rfl⟩
      repeat' (first | apply v_nil | (apply v_pure; (case hop => first | (apply p_assign <;> rfl) | (apply p_pickT <;> rfl) | fail); (case hd => rfl)) | fail)
      refine v_ret [] (outsA1 rfl rfl) (List.nil_sublist _) ?_
      rfl
theorem clos_laid : laidOutB Tryd.prog = true := by kernel_rfl
theorem clos_rowed : mapsRowed Tryd.prog = true := by kernel_rfl
theorem clos_heard : Tryd.prog.stopsHeard = true := by kernel_rfl
theorem clos_may : Tryd.prog.mayEnter = true := by kernel_rfl
theorem clos_lifts : (Rows.specRunsRow.lifted == Tryd.prog.liftsFinal) = true := by kernel_rfl
theorem clos_make : (Tryd.prog.make == some Rows.specRunsRow.make) = true := by kernel_rfl
theorem clos_plain : (Rows.specRunsRow.plainKeys == Tryd.prog.plainKeys) = true := by kernel_rfl
theorem clos_main : Tryd.prog.mainIs = some (true, "cb3208942cbea52ba89b64995542cc00a05b546696cc2cf574df974d810c620d".toList) := by kernel_rfl
theorem clos_looks : true = Tryd.prog.looks [] := by kernel_rfl
theorem specRuns_own : ownKnob Tryd.prog.godebug = none := by kernel_rfl
theorem specRuns_laidOut : laidOutB Tryd.prog = true := clos_laid
theorem specRuns_spec : LawSpec Rows.specRunsSpec 1 := ⟨rfl, fun H ds h => by match ds, h with | [d0], _ => rfl⟩
set_option maxRecDepth 100000 in
theorem specRuns_lifted (os : Os) (started : os.Started) (H : Type) (enc : TypeId × Value → H) :
    ReturnsInHanded {} Tryd.checked os 3 .any (fun w args => (Rows.specRunsSpec.pre enc Tryd.prog Tryd.f3 Rows.specRunsRow.domain false w args ∧ laidMetH Tryd.prog tabsLaid w) ∧ sizedMet enc Tryd.prog Tryd.f3 (OpenSpec.ofChange Rows.specRunsSpec) false w args)
      (Rows.specRunsSpec.post enc Tryd.prog Tryd.f3 false true false false) := by
  refine returnsInHanded_of_change_and (C := Tryd.checked) (X := fun w _ => laidMetH Tryd.prog tabsLaid w) (fun _ _ _ hh h => h.of_heap hh) specRuns_own started (by kernel_rfl) Tryd.func3
    (ChangeSpec.witness_shaped (enc := enc) (C := Tryd.checked) (os := os) (X := fun w _ => laidMetH Tryd.prog tabsLaid w) false (World.laidAll Tryd.prog os tabsLaid) #[.slice none 0 0] 8 (World.laidAll_os _ _ _)
      (World.shaped_of_ZipB (by kernel_rfl) (by kernel_rfl)) (by kernel_rfl) (by kernel_rfl) (by kernel_rfl)
      (by rw [MakeChecks.laidMetH_plain _ _ _ tabs_plain]; exact laidMet_laidAll _ (by kernel_rfl) (by kernel_rfl))) ?_
  intro W base args ds gs before hval0 hW hcnd _ hL _
  have hval : ∀ (j : Nat) t v, Tryd.f3.params[j]? = some t → args[j]? = some v → Value.okWide Tryd.prog W .any base t v := hval0
  refine law_post specRuns_laidOut Tryd.underlying4 rfl specRuns_spec rfl (by kernel_rfl) hW ?_
  obtain ⟨p, q, hA0, hV, rfl, hfz, hnd⟩ := hW
  have hA : DataW.TrodAll enc Tryd.prog W 0 (fun _ => true) true Tryd.f3.params.toList args.toList ds p := hA0
  rw [Tryd.params3] at hA hval
  obtain ⟨v0, vs0, d0, ds0, p0, q0, hargs, rfl, rfl, h0, r0⟩ := trodAll_cons hA
  obtain ⟨rfl, rfl, rfl⟩ := trodAll_nil r0
  obtain rfl : args = #[v0] := by cases args; simp_all
  have g0 := arg_t22 (hval 0 22 v0 rfl rfl) h0
  exact specRuns_law (tabs_of_laid hL) g0
theorem specRuns_c_inPlace : (Rows.specRunsRow.inPlace == Tryd.prog.inPlace 3) = true := by kernel_rfl
theorem specRuns_c_unfollowed : (Rows.specRunsRow.unfollowed == Tryd.prog.unfollowed 3) = true := by kernel_rfl
theorem specRuns_c_recurses : (Rows.specRunsRow.recurses == Tryd.prog.recurses 3) = true := by kernel_rfl
theorem specRuns_c_named : (Rows.specRunsRow.named == Tryd.prog.varsNamed 3) = true := by kernel_rfl
theorem specRuns_c_lifted : (Rows.specRunsRow.lifted == Tryd.prog.liftsFinal) = true := clos_lifts
theorem specRuns_c_make : (Tryd.prog.make == some Rows.specRunsRow.make) = true := clos_make
theorem specRuns_c_plainKeys : (Rows.specRunsRow.plainKeys == Tryd.prog.plainKeys) = true := clos_plain
theorem specRuns_closed : joinedFacts Tryd.prog 3 Tryd.f3 Rows.specRunsSpec Rows.specRunsRow = true := by
  unfold joinedFacts
  rw [clos_laid, clos_rowed, clos_heard, clos_may, specRuns_c_inPlace, specRuns_c_unfollowed, specRuns_c_recurses, specRuns_c_named, specRuns_c_lifted, specRuns_c_make, specRuns_c_plainKeys]
  kernel_rfl
theorem specRuns_over : Rows.specRunsRow.holds Tryd.pinned (OpenSpec.ofChange Rows.specRunsSpec) :=
  OpenClaim.holds_of_wide 3 Tryd.f3 rfl rfl rfl rfl rfl rfl rfl ⟨rfl, rfl, rfl, rfl, rfl⟩ rfl rfl rfl rfl rfl (by kernel_rfl) Tryd.func3 specRuns_closed
    (of_decide_eq_true (by kernel_rfl)) (by unfold Func.isWrapper; first | (rw [if_pos (by decide +kernel)]; kernel_rfl) | (rw [if_neg (by decide +kernel)]; exact ⟨rfl, rfl⟩))
    (fun os started H enc _ => specRuns_lifted os started H enc)
theorem specRuns_holds : Rows.SpecRunsSaid := specRuns_over
theorem specRuns_c_wft : Rows.specRunsRow.wfByText (OpenSpec.ofChange Rows.specRunsSpec) = true := by kernel_rfl
theorem specRuns_c_func : Tryd.prog.funcNamed Rows.specRunsRow.func = some 3 := by kernel_rfl
theorem specRuns_c_stand : ([22].all fun u => !Tryd.prog.wantsStandIn u) = true := by kernel_rfl
theorem specRuns_c_goes : false = Rows.specRunsRow.goesBy Tryd.prog := by kernel_rfl
theorem specRunsCard_holds : Rows.SpecRunsCardSaid :=
  Claim7.holds_tied_plain_at .later [] [.data, .pinned] true (true, "cb3208942cbea52ba89b64995542cc00a05b546696cc2cf574df974d810c620d") true specRuns_holds (fun _ h => by cases h) specRuns_c_wft (fun _ h => by cases h) specRuns_row_tie rfl ⟨rfl, rfl⟩ clos_main rfl
    (fun f fn hf hfn => by
      obtain rfl : f = 3 := Option.some.inj (specRuns_c_func.symm.trans hf) |>.symm
      obtain rfl : fn = Tryd.f3 := (Option.some.inj (Tryd.func3.symm.trans hfn)).symm
      exact ⟨clos_looks, fun j t ht => by
        rw [Tryd.params3] at ht
        have hm : t ∈ [22] := by simpa using Array.mem_of_getElem? ht
        exact (show Tryd.prog.wantsStandIn t = false by simpa using List.all_eq_true.1 specRuns_c_stand t hm)⟩)
    specRuns_c_goes
end Go.Proofs.YtmdeeokejdkceaaDoor
