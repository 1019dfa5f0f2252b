/-
  The law PropWins (layer 33).
-/
import Derived.Test.YtmdeeokejdkceaaDoorM4
import Derived.Test.YtmdeeokejdkceaaDoorM2
import Derived.Test.YtmdeeokejdkceaaDoorM1
import Derived.Test.YtmdeeokejdkceaaDoorRows
import Derived.Test.YtmdeeokejdkceaaDoorChecked
import Derived.JoinedOf
import Derived.SevenTiedAt
import Derived.LaidMore
import Derived.Lay
import Derived.Test.YtmdeeokejdkceaaDoorTie
import Derived.Test.YtmdeeokejdkceaaDoorCards
import Derived.Stop.Joined
set_option linter.unusedSimpArgs false
set_option linter.unusedVariables false
namespace Go.Proofs.YtmdeeokejdkceaaDoor
open Go.Vx Go.ChangeShapes Go.WideShapes Go.ChangeAt Go.RowKit
theorem eqNilT {σ : Env} {ty t t' e : TypeId} {x y : Operand} [Ty Tryd.prog t (.pointer e)] (hx : Env.ev σ x = some (.pointer none)) (hy : Env.ev σ y = some (.pointer none)) : PureOp Tryd.prog (.binOp .eql t x y t') ty σ (.bool true) := p_eqNil hx hy
theorem take0_s (G : GH) : Con Tryd.prog 18 #[.pointer none, .agg (msL 0 0 0 0 0 0 0 0 (.slice none 0 0) (.slice none 0 0)).toArray] G [] (Just (.bool false) G) := by
  apply Con.just
  (refine v_enter Tryd.func18 rfl Tryd.ntmps18 rfl ?_; intro B _)
  repeat' (first | (apply v_box (d := 3) (zs := msL 0 0 0 0 0 0 0 0 (.slice none 0 0) (.slice none 0 0)); (case hx => rfl); (case hz => rfl); (case hd => rfl); intro b3) | apply v_seq | apply v_region | apply v_nil | (apply v_pure; (case hop => (apply p_assign <;> rfl)); (case hd => rfl)) | fail)
  refine d_start _ (by kernel_rfl) (by kernel_rfl) (by kernel_rfl) (fun _ he => he) ?_
  all_goals (apply dtk 0; (case hi => rfl); (case hop => (apply prd; apply p_move <;> rfl)); (case hq => kernel_rfl))
  all_goals (apply dtk 1; (case hi => rfl); (case hop => ((apply prd; apply eqNilT; (case hx => rfl); (case hy => rfl)))); (case hq => kernel_rfl))
  all_goals (apply dtk 2; (case hi => rfl); (case hop => (apply prd; apply p_move <;> rfl)); (case hq => kernel_rfl))
  all_goals (try (apply d_guardB 3; (case hi => rfl); (case hgd => rfl); (case h1 => rfl); (case h2 => rfl); all_goals (intro h; (try simp only [reduceCtorEq, zzz] at h))))
  all_goals (apply dpa 3; (case hi => rfl); (case hg => rfl); (case hn => rfl); (case hq => kernel_rfl))
  all_goals (try (apply d_guardB 4; (case hi => rfl); (case hgd => rfl); (case h1 => rfl); (case h2 => rfl); all_goals (intro h; (try simp only [reduceCtorEq, zzz] at h))))
  all_goals (apply dpa 4; (case hi => rfl); (case hg => rfl); (case hn => rfl); (case hq => kernel_rfl))
  all_goals (try (apply d_guardB 5; (case hi => rfl); (case hgd => rfl); (case h1 => rfl); (case h2 => rfl); all_goals (intro h; (try simp only [reduceCtorEq, zzz] at h))))
  all_goals (apply dpa 5; (case hi => rfl); (case hg => rfl); (case hn => rfl); (case hq => kernel_rfl))
  all_goals (apply dtk 6; (case hi => rfl); (case hop => (apply prd; apply p_pickT <;> rfl)); (case hq => kernel_rfl))
  all_goals (apply dtk 7; (case hi => rfl); (case hop => (apply prd; apply p_move <;> rfl)); (case hq => kernel_rfl))
  all_goals (try (apply d_guardB 8; (case hi => rfl); (case hgd => rfl); (case h1 => rfl); (case h2 => rfl); all_goals (intro h; (try simp only [reduceCtorEq, zzz] at h))))
  all_goals (apply dpa 8; (case hi => rfl); (case hg => rfl); (case hn => rfl); (case hq => kernel_rfl))
  all_goals (try (apply d_guardB 9; (case hi => rfl); (case hgd => rfl); (case h1 => rfl); (case h2 => rfl); all_goals (intro h; (try simp only [reduceCtorEq, zzz] at h))))
  all_goals (apply dpa 9; (case hi => rfl); (case hg => rfl); (case hn => rfl); (case hq => kernel_rfl))
  all_goals (try (apply d_guardB 10; (case hi => rfl); (case hgd => rfl); (case h1 => rfl); (case h2 => rfl); all_goals (intro h; (try simp only [reduceCtorEq, zzz] at h))))
  all_goals (apply dpa 10; (case hi => rfl); (case hg => rfl); (case hn => rfl); (case hq => kernel_rfl))
  all_goals (apply dtk 11; (case hi => rfl); (case hop => (apply prd; apply p_pickT <;> rfl)); (case hq => kernel_rfl))
  all_goals (apply dtk 12; (case hi => rfl); (case hop => (apply prd; apply p_move <;> rfl)); (case hq => kernel_rfl))
  all_goals (try (apply d_guardB 13; (case hi => rfl); (case hgd => rfl); (case h1 => rfl); (case h2 => rfl); all_goals (intro h; (try simp only [reduceCtorEq, zzz] at h))))
  all_goals (apply dpa 13; (case hi => rfl); (case hg => rfl); (case hn => rfl); (case hq => kernel_rfl))
  all_goals (try (apply d_guardB 14; (case hi => rfl); (case hgd => rfl); (case h1 => rfl); (case h2 => rfl); all_goals (intro h; (try simp only [reduceCtorEq, zzz] at h))))
  all_goals (apply dpa 14; (case hi => rfl); (case hg => rfl); (case hn => rfl); (case hq => kernel_rfl))
  all_goals (try (apply d_guardB 15; (case hi => rfl); (case hgd => rfl); (case h1 => rfl); (case h2 => rfl); all_goals (intro h; (try simp only [reduceCtorEq, zzz] at h))))
  all_goals (apply dpa 15; (case hi => rfl); (case hg => rfl); (case hn => rfl); (case hq => kernel_rfl))
  all_goals (try (apply d_guardB 16; (case hi => rfl); (case hgd => rfl); (case h1 => rfl); (case h2 => rfl); all_goals (intro h; (try simp only [reduceCtorEq, zzz] at h))))
  all_goals (apply dpa 16; (case hi => rfl); (case hg => rfl); (case hn => rfl); (case hq => kernel_rfl))
  all_goals (try (apply d_guardB 17; (case hi => rfl); (case hgd => rfl); (case h1 => rfl); (case h2 => rfl); all_goals (intro h; (try simp only [reduceCtorEq, zzz] at h))))
  all_goals (apply dpa 17; (case hi => rfl); (case hg => rfl); (case hn => rfl); (case hq => kernel_rfl))
  all_goals (try (apply d_guardB 18; (case hi => rfl); (case hgd => rfl); (case h1 => rfl); (case h2 => rfl); all_goals (intro h; (try simp only [reduceCtorEq, zzz] at h))))
  all_goals (apply dpa 18; (case hi => rfl); (case hg => rfl); (case hn => rfl); (case hq => kernel_rfl))
  all_goals (try (apply d_guardB 19; (case hi => rfl); (case hgd => rfl); (case h1 => rfl); (case h2 => rfl); all_goals (intro h; (try simp only [reduceCtorEq, zzz] at h))))
  all_goals (apply dpa 19; (case hi => rfl); (case hg => rfl); (case hn => rfl); (case hq => kernel_rfl))
  all_goals (apply dtk 20; (case hi => rfl); (case hop => (apply prd; apply p_pickT <;> rfl)); (case hq => kernel_rfl))
  all_goals (apply dtk 21; (case hi => rfl); (case hop => (apply prd; apply p_move <;> rfl)); (case hq => kernel_rfl))
  all_goals (try (apply d_guardB 22; (case hi => rfl); (case hgd => rfl); (case h1 => rfl); (case h2 => rfl); all_goals (intro h; (try simp only [reduceCtorEq, zzz] at h))))
  all_goals (apply dpa 22; (case hi => rfl); (case hg => rfl); (case hn => rfl); (case hq => kernel_rfl))
  all_goals (try (apply d_guardB 23; (case hi => rfl); (case hgd => rfl); (case h1 => rfl); (case h2 => rfl); all_goals (intro h; (try simp only [reduceCtorEq, zzz] at h))))
  all_goals (apply dpa 23; (case hi => rfl); (case hg => rfl); (case hn => rfl); (case hq => kernel_rfl))
  all_goals (try (apply d_guardB 24; (case hi => rfl); (case hgd => rfl); (case h1 => rfl); (case h2 => rfl); all_goals (intro h; (try simp only [reduceCtorEq, zzz] at h))))
  all_goals (apply dpa 24; (case hi => rfl); (case hg => rfl); (case hn => rfl); (case hq => kernel_rfl))
  all_goals (try (apply d_guardB 25; (case hi => rfl); (case hgd => rfl); (case h1 => rfl); (case h2 => rfl); all_goals (intro h; (try simp only [reduceCtorEq, zzz] at h))))
  all_goals (apply dpa 25; (case hi => rfl); (case hg => rfl); (case hn => rfl); (case hq => kernel_rfl))
  all_goals (try (apply d_guardB 26; (case hi => rfl); (case hgd => rfl); (case h1 => rfl); (case h2 => rfl); all_goals (intro h; (try simp only [reduceCtorEq, zzz] at h))))
  all_goals (apply dpa 26; (case hi => rfl); (case hg => rfl); (case hn => rfl); (case hq => kernel_rfl))
  all_goals (try (apply d_guardB 27; (case hi => rfl); (case hgd => rfl); (case h1 => rfl); (case h2 => rfl); all_goals (intro h; (try simp only [reduceCtorEq, zzz] at h))))
  all_goals (apply dpa 27; (case hi => rfl); (case hg => rfl); (case hn => rfl); (case hq => kernel_rfl))
  all_goals (try (apply d_guardB 28; (case hi => rfl); (case hgd => rfl); (case h1 => rfl); (case h2 => rfl); all_goals (intro h; (try simp only [reduceCtorEq, zzz] at h))))
  all_goals (apply dpa 28; (case hi => rfl); (case hg => rfl); (case hn => rfl); (case hq => kernel_rfl))
  all_goals (apply dtk 29; (case hi => rfl); (case hop => (apply prd; apply p_pickT <;> rfl)); (case hq => kernel_rfl))
  all_goals (apply d_done; (case hr => kernel_rfl))
  all_goals repeat' (first | apply v_seq | apply v_region | apply v_nil | (apply v_pure; (case hop => (apply p_assign <;> rfl)); (case hd => rfl)) | (apply v_condT; (case hc => rfl)) | fail)
  all_goals
    (refine v_ret [] (outsA1 rfl rfl) (by repeat (exact List.nil_sublist _)) ?_
     exact ⟨rfl, rfl⟩)
set_option maxHeartbeats 4000000 in
theorem propWins_law {W : World} {v0 v1 : Value} (hT : TabsG (ghost W)) (g0 : ∃ l : List Ms, Mss (ghost W) v0 l) (g1 : ∃ l : List Int, Sl (ghost W) 1 (IntR .i64) v1 l) : LawCon Tryd.prog 4 #[v0, v1] W := by
  obtain ⟨l, hs⟩ := g0
  obtain ⟨members, hmem⟩ := g1
  unfold LawCon
  generalize ghost W = G at *
  have qa := fun G' (h : GH.le G G') => awake33_s (hT.le h)
  have q1 := largeMs_s hs
  obtain ⟨LA, lc, rfl, hlc, hcm, hsome, hcp⟩ := msOpen hs
  obtain ⟨MA, mc, rfl, hmlc, hmcm, -⟩ := id hmem.openInt
  simp only [maxLen] at hcm hmcm
  (refine v_enter Tryd.func4 rfl Tryd.ntmps4 rfl ?_; intro B _)
  repeat' (first | apply v_seq | apply v_region | apply v_nil | (apply v_pure; (case hop => first | (apply p_move <;> rfl) | (apply p_assign <;> rfl) | fail); (case hd => rfl)) | fail)
  refine v_call (μ1 := []) rfl q1 (List.Perm.refl _) rfl ?_
  rintro _ G1 _ - ⟨hG1, rfl, b1, rfl, h2⟩
  subst hG1
  by_cases hbig : b1 = true ∨ 60 < members.length
  · repeat' (first | apply v_seq | apply v_region | apply v_nil | apply v_skip | (apply v_take; (case hg => rfl)) | (apply v_pass; (case hg => rfl); (case hn => rfl); (case hd => rfl)) | (apply v_pure; (case hop => first | (apply p_move <;> rfl) | (apply p_gt <;> rfl) | (apply p_pickT <;> rfl) | (apply p_pickF <;> rfl) | (apply p_lenSlice <;> rfl) | (apply p_build; (case hz => rfl); (case hv => (simp only [List.map_cons, List.map_nil]; repeat (first | with_reducible exact evs_nil | (apply evs_cons; (case h1 => rfl))))); (case hb => (apply bldL; repeat (first | exact bld_nil | (apply bld_cons; (case hpf => rfl); (case hc => rfl); (case hs => rfl); (case hl => rfl); (case ho => ((repeat (first | with_reducible exact ov_nil | apply ov_cons)); done))))))) | fail); (case hd => rfl)) | (apply v_condT; (case hc => rfl)) | (apply v_cond; (case hc => rfl); all_goals (intro h; (try simp only [reduceCtorEq, zzz] at h))) | (apply v_guardB; (case h1 => rfl); (case h2 => rfl); all_goals (intro h; (try simp only [reduceCtorEq, zzz] at h))) | (apply v_read; (case hop => (apply r_loadNo; (case hx => rfl); (case h => (repeat (exact mhd _))); (case hd => (repeat (first | with_reducible exact dt_nil | apply dt_here))); (case hn => rfl))); (case hd => rfl)) | (apply v_alloc; (case hz => rfl); (case hd => rfl); intro b) | (apply v_store; (case hp => rfl); (case hx => rfl); (case hc => rfl); (case hsz => rfl); (case h1 => rfl); (case hb => (repeat (exact mhd _))); (case hfit => exact nle rfl); (case hov => ((repeat (first | with_reducible exact ov_nil | apply ov_cons)); done)); (case hu => repeat (exact Upd.here _ _))) | fail)
    all_goals first
      | (exfalso; rcases hbig with h | h <;> simp_all <;> omega)
      | skip
    all_goals
      (refine v_call (μ1 := []) rfl (qa _ (GH.le_refl _)) (List.Perm.refl _) rfl ?_
       rintro _ G9 _ - ⟨rfl, rfl⟩
       repeat' (first | apply v_nil | (apply v_pure; (case hop => (apply p_assign <;> rfl)); (case hd => rfl)) | fail)
       refine v_ret [] (outsA1 rfl rfl) (by repeat (exact List.Sublist.refl _)) ?_
       rfl)
  · obtain ⟨hl30, hz⟩ := h2 (by cases b1 <;> simp_all)
    have hb1 : b1 = false := by cases b1 <;> simp_all
    subst hb1
    have hml : members.length ≤ 60 := by
      have : ¬ 60 < members.length := fun h => hbig (.inr h)
      omega
    have hm : QMay 9 9 1 := by decide
    have q2 := qnew_s (G := G1) (r := 9) (n := 9) (a := 1)
    repeat' (first | (apply v_alloc (d := 5); (case hz => rfl); (case hd => rfl); intro b5) | (apply v_read; (case hop => (apply r_loadNo; (case hx => rfl); (case h => repeat (exact mhd _)); (case hd => rfl); (case hn => rfl))); (case hd => rfl)) | apply v_seq | apply v_region | apply v_nil | apply v_skip | (apply v_take; (case hg => rfl)) | (apply v_pure; (case hop => first | (apply p_move <;> rfl) | (apply p_gt <;> rfl) | (apply p_pickF <;> rfl) | (apply p_lenSlice <;> rfl) | (apply p_build; (case hz => rfl); (case hv => (simp only [List.map_cons, List.map_nil]; repeat (first | with_reducible exact evs_nil | (apply evs_cons; (case h1 => rfl))))); (case hb => (apply bldL; repeat (first | exact bld_nil | (apply bld_cons; (case hpf => rfl); (case hc => rfl); (case hs => rfl); (case hl => rfl); (case ho => ((repeat (first | with_reducible exact ov_nil | apply ov_cons)); done))))))) | fail); (case hd => rfl)) | (apply v_cond; (case hc => rfl); all_goals (intro h; (try simp only [reduceCtorEq, zzz] at h); first | (exfalso; omega) | skip)) | (apply v_store; (case hp => rfl); (case hx => rfl); (case hc => rfl); (case hsz => rfl); (case h1 => rfl); (case hb => (repeat (exact mhd _))); (case hfit => exact nle rfl); (case hov => ((repeat (first | with_reducible exact ov_nil | apply ov_cons)); done)); (case hu => repeat (exact Upd.here _ _))) | fail)
    refine v_call (μ1 := []) rfl q2 (List.Perm.refl _) rfl ?_
    rintro _ G2 _ - ⟨hG2, h⟩
    subst hG2
    obtain ⟨hm0, -⟩ | ⟨-, q, mp, rfl, rfl⟩ := h
    · exact absurd hm hm0
    repeat' (first | apply v_seq | apply v_region | apply v_nil | apply v_block | (apply v_pure; (case hop => (apply p_assign <;> rfl)); (case hd => rfl)) | fail)
    refine v_loop [7, 0, 1, 5, 6] (fun us G' μ' => GH.le G2 G' ∧ ∃ (k : Nat) (got : List Ms) (ml : List (Int × Value)) (oM : Obj), k ≤ l.length ∧ LearnI got k ∧ MapB keyI ml oM ∧ GotR G' got ml ∧ us = [Value.int .i64 (k : Nat), .slice LA l.length lc, .slice MA members.length mc, .pointer (some ⟨b5, 0, none⟩), .pointer (some ⟨q, 0, none⟩)] ∧ μ' = [(q, qO 9 9 1 mp), (mp, oM), (b5, .cells [.int .i64 9, .int .i64 9].toArray 48 (0, 0))]) (fun us => l.length - (headI us).toNat) rfl ⟨GH.le_refl _, 0, [], [], .map #[] 0, by omega, ⟨by simp, by simp, by simp⟩, MapB.nil, GotR.nil, rfl, rfl⟩ ?_
    rintro us G' _ ⟨hle, k, got, ml, oM, hk, hI, hM, hg, rfl, rfl⟩
    have e1 : ((k : Nat) : Int).toNat = k := by omega
    by_cases hlt : k < l.length
    · have hA := hsome (by omega)
      obtain ⟨EA, ec, IA, ic, hck0, hmk0⟩ := hcp k hlt
      have hck := hck0.le hle
      have hmk := hmk0.le hle
      have hzm := hz _ (List.getElem_mem hlt)
      have hgl := hI.1
      clear hck0 hmk0 q1 q2 hcp
      generalize l[k] = m at *
      obtain ⟨kind, src, dst, round, node, index, commit, version, ents, img⟩ := m
      have hmk2 : MsR G' ⟨4, src, dst, 9, 9, 1, commit, version, ents, img⟩ (msL 4 src dst 9 9 1 commit version (.slice EA ents.length ec) (.slice IA img.length ic)) := by
        obtain ⟨A, c, I, ci, e, h1, h2⟩ := hmk
        simp only [Ms.cells, msL, List.cons.injEq, Value.slice.injEq, and_true, true_and] at e
        obtain ⟨⟨rfl, rfl⟩, rfl, rfl⟩ := e
        exact ⟨_, _, _, _, rfl, h1, h2⟩
      have hzm2 : MsZ ⟨4, src, dst, 9, 9, 1, commit, version, ents, img⟩ := hzm
      have qk := qtake_s (hT.le hle) (r := 9) (n := 9) (a := 1) (q := q) (mp := mp) _ hmk2 hM hg (by have := hzm.1; simp only at this ⊢; omega)
      have hI2 : LearnI (if TakeP 9 9 1 got ⟨4, src, dst, 9, 9, 1, commit, version, ents, img⟩ then got ++ [⟨4, src, dst, 9, 9, 1, commit, version, ents, img⟩] else got) (k + 1) := by
        split
        · rename_i ht; exact hI.snoc ht hzm2
        · exact hI.more
      clear hzm hzm2 hmk
      repeat' (first | (apply v_read; (case hop => (apply r_loadN; rfl; exact CellsAt.frozen hck; rfl)); (case hd => rfl)) | (apply v_alloc (d := 8); (case hz => rfl); (case hd => rfl); intro b8) | (apply v_read; (case hop => (apply r_loadNo; (case hx => rfl); (case h => repeat (first | exact mhd _ | apply mtl)); (case hd => rfl); (case hn => rfl))); (case hd => rfl)) | apply v_seq | apply v_region | apply v_nil | apply v_skip | apply v_block | (apply v_pure; (case hop => first | (apply p_move <;> rfl) | (apply p_lt <;> rfl) | (apply p_lenSlice <;> rfl) | (apply p_fieldAddrB <;> rfl) | (apply p_indexAddrS; (case hx => rfl); (case hi => rfl); (case h0 => omega); (case h => omega); (case hA => assumption)) | fail); (case hd => rfl)) | (apply v_cond; (case hc => rfl); all_goals (intro h; (try simp only [reduceCtorEq, zzz] at h); first | (exfalso; omega) | skip)) | (apply v_store; (case hp => rfl); (case hx => rfl); (case hc => rfl); (case hsz => rfl); (case h1 => rfl); (case hb => (repeat (exact mhd _))); (case hfit => exact nle rfl); (case hov => (first | ((repeat (first | with_reducible exact ov_nil | apply ov_cons)); done) | rfl)); (case hu => repeat (exact Upd.here _ _))) | fail)
      refine v_call (μ1 := [(q, qO 9 9 1 mp), (mp, oM)]) rfl qk (PickA.perm (by repeat (first | exact PickA.here _ | apply PickA.cons))) rfl ?_
      rintro _ G5 _ hle5 ⟨-, rfl, ml', oM', hM', hg', rfl⟩
      repeat' (first | apply v_region | apply v_nil | apply v_blk | (apply v_pure; (case hop => first | (apply p_move <;> rfl) | (apply p_assign <;> rfl) | (apply p_add; (case hx => rfl); (case hy => rfl); (case h => omega)) | fail); (case hd => rfl)) | fail)
      refine v_drop (ν := [(q, qO 9 9 1 mp), (mp, oM'), (b5, .cells [.int .i64 9, .int .i64 9].toArray 48 (0, 0))]) (by repeat (first | exact List.Sublist.refl _ | apply List.Sublist.cons_cons | apply List.Sublist.cons)) ?_
      exact v_again rfl ⟨GH.le_trans hle hle5, k + 1, _, ml', oM', by omega, hI2, hM', hg', rfl, rfl⟩ (by simp [headI]; omega)
    · obtain rfl : k = l.length := by omega
      obtain ⟨hb, hcm0, hnd⟩ := hI.facts (by omega)
      clear hI q1 q2 hcp hz h2
      have hmem' := hmem.mono hle
      have qv := value0_s G' 1
      have qb := ballot0_s G'
      have qf := from0_s G'
      have qn := nodes0_s G'
      have qfl := floor0_s G'
      have qbe := behind0_s G'
      have qt := top0_s G'
      have qw := won0_s G' (.slice MA members.length mc)
      have qk := take0_s G'
      have qW := won_s (r := 9) (n := 9) (a := 1) (q := q) (mp := mp) hM hg hb hmem' (by omega)
      have qN := fun (G : GH) (h : GotR G got ml) => nodes_s (r := 9) (n := 9) (a := 1) (q := q) (mp := mp) hM h hb.1
      repeat' (first | (apply v_alloc (d := 10); (case hz => rfl); (case hd => rfl); intro b10) | (apply v_pure; (case hop => apply eqBalSame; (case hx => rfl); (case hy => rfl)); (case hd => rfl)) | (apply v_pure; (case hop => apply eqSame; (case hx => rfl); (case hy => rfl)); (case hd => rfl)) | apply v_seq | apply v_region | apply v_nil | (apply v_exit; (case hp => rfl)) | (apply v_take; (case hg => rfl)) | (apply v_pure; (case hop => first | (apply p_move <;> rfl) | (apply p_lt <;> rfl) | (apply p_assign <;> rfl) | (apply p_pickT <;> rfl) | (apply p_not <;> rfl) | (apply p_lenSlice <;> rfl) | (apply p_extract0 <;> rfl) | (apply p_extract1 <;> rfl) | (apply p_build; (case hz => rfl); (case hv => (simp only [List.map_cons, List.map_nil]; repeat (with_reducible exact evs_nil))); (case hb => (apply bldL; repeat (exact bld_nil)))) | fail); (case hd => rfl)) | (apply v_cond; (case hc => rfl); all_goals (intro h; (try simp only [reduceCtorEq, zzz] at h); first | (exfalso; omega) | skip)) | (apply v_callJ (hs := qv); (case ha => rfl); (case hd => rfl)) | (apply v_callJ (hs := qb); (case ha => rfl); (case hd => rfl)) | (apply v_callJ (hs := qf); (case ha => rfl); (case hd => rfl)) | (apply v_callJ (hs := qn); (case ha => rfl); (case hd => rfl)) | (apply v_callJ (hs := qfl); (case ha => rfl); (case hd => rfl)) | (apply v_callJ (hs := qbe); (case ha => rfl); (case hd => rfl)) | (apply v_callJ (hs := qt); (case ha => rfl); (case hd => rfl)) | (apply v_callJ (hs := qw); (case ha => rfl); (case hd => rfl)) | (apply v_callJ (hs := qk); (case ha => rfl); (case hd => rfl)) | (apply v_store; (case hp => rfl); (case hx => rfl); (case hc => rfl); (case hsz => rfl); (case h1 => rfl); (case hb => (repeat (exact mhd _))); (case hfit => exact nle rfl); (case hov => ((repeat (first | with_reducible exact ov_nil | apply ov_cons)); done)); (case hu => repeat (exact Upd.here _ _))) | fail)
      refine v_call (μ1 := [(q, qO 9 9 1 mp), (mp, oM)]) rfl qW (PickA.perm (by repeat (first | exact PickA.here _ | apply PickA.cons))) rfl ?_
      rintro _ G6 _ hle6 ⟨-, rfl, rfl⟩
      repeat' (first | (apply v_take; (case hg => rfl)) | (apply v_pure; (case hop => (apply p_move <;> rfl)); (case hd => rfl)) | fail)
      refine v_call (μ1 := [(q, qO 9 9 1 mp), (mp, oM)]) rfl (qN _ (hg.le hle6)) (PickA.perm (by repeat (exact PickA.here _))) rfl ?_
      rintro nv G7 _ - ⟨hG7, ν, hgr, rfl⟩
      subst G7
      refine v_frzP ν (List.Perm.of_eq (List.append_assoc ..)) ?_
      intro G8 hle8 hG8
      have hnd2 := hb.nodes
      have hn := hgr.ints hG8 (fun x hx => by
        have := hnd2 x hx
        exact WalkArith.wf_i64 (by omega))
      obtain ⟨A2, c2, rfl, -⟩ := id hn.openInt
      have qm := refMaj_s ((hmem'.mono hle6).mono hle8) hn (by omega)
      repeat' (first | (apply v_pure; (case hop => apply eqBSame; (case hx => rfl); (case hy => rfl)); (case hd => rfl)) | (apply v_take; (case hg => rfl)) | (apply v_pure; (case hop => first | (apply p_move <;> rfl) | (apply p_pickT <;> rfl) | fail); (case hd => rfl)) | (apply v_callJ (hs := qm); (case ha => rfl); (case hd => rfl)) | fail)
      refine v_call (μ1 := []) rfl (qa _ (GH.le_trans hle (GH.le_trans hle6 hle8))) (List.Perm.refl _) rfl ?_
      rintro _ G9 _ - ⟨rfl, rfl⟩
      repeat' (first | apply v_nil | (apply v_pure; (case hop => first | (apply p_assign <;> rfl) | (apply p_pickT <;> rfl) | fail); (case hd => rfl)) | fail)
      refine v_ret [] (outsA1 rfl rfl) (List.nil_sublist _) ?_
      rfl
theorem clos_laid : laidOutB Tryd.prog = true := by kernel_rfl
theorem clos_rowed : mapsRowed Tryd.prog = true := by kernel_rfl
theorem clos_heard : Tryd.prog.stopsHeard = true := by kernel_rfl
theorem clos_may : Tryd.prog.mayEnter = true := by kernel_rfl
theorem clos_lifts : (Rows.specRunsRow.lifted == Tryd.prog.liftsFinal) = true := by kernel_rfl
theorem clos_make : (Tryd.prog.make == some Rows.specRunsRow.make) = true := by kernel_rfl
theorem clos_plain : (Rows.specRunsRow.plainKeys == Tryd.prog.plainKeys) = true := by kernel_rfl
theorem clos_main : Tryd.prog.mainIs = some (true, "cb3208942cbea52ba89b64995542cc00a05b546696cc2cf574df974d810c620d".toList) := by kernel_rfl
theorem clos_looks : true = Tryd.prog.looks [] := by kernel_rfl
theorem propWins_own : ownKnob Tryd.prog.godebug = none := by kernel_rfl
theorem propWins_laidOut : laidOutB Tryd.prog = true := clos_laid
theorem propWins_spec : LawSpec Rows.propWinsSpec 2 := ⟨rfl, fun H ds h => by match ds, h with | [d0, d1], _ => rfl⟩
set_option maxRecDepth 100000 in
theorem propWins_lifted (os : Os) (started : os.Started) (H : Type) (enc : TypeId × Value → H) :
    ReturnsInHanded {} Tryd.checked os 4 .any (fun w args => (Rows.propWinsSpec.pre enc Tryd.prog Tryd.f4 Rows.propWinsRow.domain false w args ∧ laidMetH Tryd.prog tabsLaid w) ∧ sizedMet enc Tryd.prog Tryd.f4 (OpenSpec.ofChange Rows.propWinsSpec) false w args)
      (Rows.propWinsSpec.post enc Tryd.prog Tryd.f4 false true false false) := by
  refine returnsInHanded_of_change_and (C := Tryd.checked) (X := fun w _ => laidMetH Tryd.prog tabsLaid w) (fun _ _ _ hh h => h.of_heap hh) propWins_own started (by kernel_rfl) Tryd.func4
    (ChangeSpec.witness_shaped (enc := enc) (C := Tryd.checked) (os := os) (X := fun w _ => laidMetH Tryd.prog tabsLaid w) false (World.laidAll Tryd.prog os tabsLaid) #[.slice none 0 0, .slice none 0 0] 8 (World.laidAll_os _ _ _)
      (World.shaped_of_ZipB (by kernel_rfl) (by kernel_rfl)) (by kernel_rfl) (by kernel_rfl) (by kernel_rfl)
      (by rw [MakeChecks.laidMetH_plain _ _ _ tabs_plain]; exact laidMet_laidAll _ (by kernel_rfl) (by kernel_rfl))) ?_
  intro W base args ds gs before hval0 hW hcnd _ hL _
  have hval : ∀ (j : Nat) t v, Tryd.f4.params[j]? = some t → args[j]? = some v → Value.okWide Tryd.prog W .any base t v := hval0
  refine law_post propWins_laidOut Tryd.underlying4 rfl propWins_spec rfl (by kernel_rfl) hW ?_
  obtain ⟨p, q, hA0, hV, rfl, hfz, hnd⟩ := hW
  have hA : DataW.TrodAll enc Tryd.prog W 0 (fun _ => true) true Tryd.f4.params.toList args.toList ds p := hA0
  rw [Tryd.params4] at hA hval
  obtain ⟨v0, vs0, d0, ds0, p0, q0, hargs, rfl, rfl, h0, r0⟩ := trodAll_cons hA
  obtain ⟨v1, vs1, d1, ds1, p1, q1, rfl, rfl, rfl, h1, r1⟩ := trodAll_cons r0
  obtain ⟨rfl, rfl, rfl⟩ := trodAll_nil r1
  obtain rfl : args = #[v0, v1] := by cases args; simp_all
  have g0 := arg_t44 (hval 0 44 v0 rfl rfl) h0
  have g1 := arg_t45 (hval 1 45 v1 rfl rfl) h1
  exact propWins_law (tabs_of_laid hL) g0 g1
theorem propWins_c_inPlace : (Rows.propWinsRow.inPlace == Tryd.prog.inPlace 4) = true := by kernel_rfl
theorem propWins_c_unfollowed : (Rows.propWinsRow.unfollowed == Tryd.prog.unfollowed 4) = true := by kernel_rfl
theorem propWins_c_recurses : (Rows.propWinsRow.recurses == Tryd.prog.recurses 4) = true := by kernel_rfl
theorem propWins_c_named : (Rows.propWinsRow.named == Tryd.prog.varsNamed 4) = true := by kernel_rfl
theorem propWins_c_lifted : (Rows.propWinsRow.lifted == Tryd.prog.liftsFinal) = true := clos_lifts
theorem propWins_c_make : (Tryd.prog.make == some Rows.propWinsRow.make) = true := clos_make
theorem propWins_c_plainKeys : (Rows.propWinsRow.plainKeys == Tryd.prog.plainKeys) = true := clos_plain
theorem propWins_closed : joinedFacts Tryd.prog 4 Tryd.f4 Rows.propWinsSpec Rows.propWinsRow = true := by
  unfold joinedFacts
  rw [clos_laid, clos_rowed, clos_heard, clos_may, propWins_c_inPlace, propWins_c_unfollowed, propWins_c_recurses, propWins_c_named, propWins_c_lifted, propWins_c_make, propWins_c_plainKeys]
  kernel_rfl
theorem propWins_over : Rows.propWinsRow.holds Tryd.pinned (OpenSpec.ofChange Rows.propWinsSpec) :=
  OpenClaim.holds_of_wide 4 Tryd.f4 rfl rfl rfl rfl rfl rfl rfl ⟨rfl, rfl, rfl, rfl, rfl⟩ rfl rfl rfl rfl rfl (by kernel_rfl) Tryd.func4 propWins_closed
    (of_decide_eq_true (by kernel_rfl)) (by unfold Func.isWrapper; first | (rw [if_pos (by decide +kernel)]; kernel_rfl) | (rw [if_neg (by decide +kernel)]; exact ⟨rfl, rfl⟩))
    (fun os started H enc _ => propWins_lifted os started H enc)
theorem propWins_holds : Rows.PropWinsSaid := propWins_over
theorem propWins_c_wft : Rows.propWinsRow.wfByText (OpenSpec.ofChange Rows.propWinsSpec) = true := by kernel_rfl
theorem propWins_c_func : Tryd.prog.funcNamed Rows.propWinsRow.func = some 4 := by kernel_rfl
theorem propWins_c_stand : ([44, 45].all fun u => !Tryd.prog.wantsStandIn u) = true := by kernel_rfl
theorem propWins_c_goes : false = Rows.propWinsRow.goesBy Tryd.prog := by kernel_rfl
theorem propWinsCard_holds : Rows.PropWinsCardSaid :=
  Claim7.holds_tied_plain_at .later [] [.data, .pinned] true (true, "cb3208942cbea52ba89b64995542cc00a05b546696cc2cf574df974d810c620d") true propWins_holds (fun _ h => by cases h) propWins_c_wft (fun _ h => by cases h) propWins_row_tie rfl ⟨rfl, rfl⟩ clos_main rfl
    (fun f fn hf hfn => by
      obtain rfl : f = 4 := Option.some.inj (propWins_c_func.symm.trans hf) |>.symm
      obtain rfl : fn = Tryd.f4 := (Option.some.inj (Tryd.func4.symm.trans hfn)).symm
      exact ⟨clos_looks, fun j t ht => by
        rw [Tryd.params4] at ht
        have hm : t ∈ [44, 45] := by simpa using Array.mem_of_getElem? ht
        exact (show Tryd.prog.wantsStandIn t = false by simpa using List.all_eq_true.1 propWins_c_stand t hm)⟩)
    propWins_c_goes
end Go.Proofs.YtmdeeokejdkceaaDoor
