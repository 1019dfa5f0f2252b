/-
  app (layer 28): states; a client's command.
-/
import Derived.Test.YtmdeeokejdkceaaGreatDoorM3
import Derived.Test.YtmdeeokejdkceaaGreatDoorM1
set_option linter.unusedSimpArgs false
set_option linter.unusedVariables false
namespace Go.Proofs.YtmdeeokejdkceaaGreatDoor
open Go.Vx Go.ChangeShapes Go.WideShapes Go.ChangeAt Go.RowKit
structure St where
  schema : Int
  pairs : List Pr
  sess : List Ss
def StV (G : GH) (s : St) (v : Value) : Prop := ∃ A c A' c', v = .agg [.int .i64 s.schema, .slice A s.pairs.length c, .slice A' s.sess.length c'].toArray ∧ Prs G (.slice A s.pairs.length c) s.pairs ∧ Sss G (.slice A' s.sess.length c') s.sess
theorem StV.up {G G' : GH} (hle : GH.le G G') {s : St} {v : Value} (h : StV G s v) : StV G' s v := by
  obtain ⟨A, c, A', c', h1, h2, h3⟩ := h
  exact ⟨A, c, A', c', h1, h2.mono hle, h3.mono hle⟩
def verS (z : Int) : Int := if z = 1 then 1 else 2
theorem of1_s (G : GH) (z : Int) (pv sv : Value) (h1 : pv.cells = [pv].toArray) (h2 : sv.cells = [sv].toArray) (hz : z = 1) : Con Tryz.prog 207 #[.agg [.int .i64 z, pv, sv].toArray] G [] (Just (.agg [.int .i64 1, .func (.func 253) #[] #[]].toArray) G) := by
  apply Con.just
  (refine v_enter Tryz.func207 rfl Tryz.ntmps207 rfl ?_; intro B _)
  repeat' (first | (apply v_box (zs := [.int .i64 z, pv, sv]); (case hx => rfl); (case hz => rfl); (case hd => rfl); intro b) | (apply v_alloc (d := 2); (case hz => rfl); (case hd => rfl); intro b2) | apply v_seq | apply v_region | apply v_nil | (apply v_pure; (case hop => first | (apply p_eq <;> rfl) | (apply p_fieldAddrB <;> rfl) | (apply p_build; (case hz => rfl); (case hv => (simp only [List.map_cons, List.map_nil]; repeat (first | with_reducible exact evs_nil | (apply evs_cons; (case h1 => rfl))))); (case hb => (apply bldL; repeat (first | exact bld_nil | (apply bld_cons; (case hpf => rfl); (case hc => rfl); (case hs => rfl); (case hl => rfl); (case ho => ((repeat (first | with_reducible exact ov_nil | apply ov_cons)); done))))))) | fail); (case hd => rfl)) | (apply v_cond; (case hc => rfl); all_goals (intro h; (try simp only [reduceCtorEq, zzz] at h); first | (exfalso; omega) | skip)) | (apply v_read; (case hop => (apply r_load1; rfl; (apply Cell.own; (case h => (repeat (first | exact mhd _ | apply mtl))); rfl))); (case hd => rfl)) | (apply v_store; (case hp => rfl); (case hx => rfl); (case hc => rfl); (case hsz => rfl); (case h1 => rfl); (case hb => (repeat (exact mhd _))); (case hfit => exact nle rfl); (case hov => ((repeat (first | with_reducible exact ov_nil | apply ov_cons)); done)); (case hu => repeat (exact Upd.here _ _))) | fail)
  refine v_retM [] (outsM_cell (sz := 2) (vs := [.int .i64 1, .func (.func 253) #[] #[]]) (e := 266) rfl rfl (by (repeat (exact mhd _))) rfl) (List.nil_sublist _) ⟨rfl, rfl⟩
theorem of2_s (G : GH) (z : Int) (pv sv : Value) (h1 : pv.cells = [pv].toArray) (h2 : sv.cells = [sv].toArray) (hz : ¬ z = 1) : Con Tryz.prog 207 #[.agg [.int .i64 z, pv, sv].toArray] G [] (Just (.agg [.int .i64 2, .func (.func 254) #[] #[]].toArray) G) := by
  apply Con.just
  (refine v_enter Tryz.func207 rfl Tryz.ntmps207 rfl ?_; intro B _)
  repeat' (first | (apply v_box (zs := [.int .i64 z, pv, sv]); (case hx => rfl); (case hz => rfl); (case hd => rfl); intro b) | (apply v_alloc (d := 2); (case hz => rfl); (case hd => rfl); intro b2) | apply v_seq | apply v_region | apply v_nil | apply v_skip | (apply v_pure; (case hop => first | (apply p_eq <;> rfl) | (apply p_fieldAddrB <;> rfl) | (apply p_build; (case hz => rfl); (case hv => (simp only [List.map_cons, List.map_nil]; repeat (first | with_reducible exact evs_nil | (apply evs_cons; (case h1 => rfl))))); (case hb => (apply bldL; repeat (first | exact bld_nil | (apply bld_cons; (case hpf => rfl); (case hc => rfl); (case hs => rfl); (case hl => rfl); (case ho => ((repeat (first | with_reducible exact ov_nil | apply ov_cons)); done))))))) | fail); (case hd => rfl)) | (apply v_cond; (case hc => rfl); all_goals (intro h; (try simp only [reduceCtorEq, zzz] at h); first | (exfalso; omega) | skip)) | (apply v_read; (case hop => (apply r_load1; rfl; (apply Cell.own; (case h => (repeat (first | exact mhd _ | apply mtl))); rfl))); (case hd => rfl)) | (apply v_store; (case hp => rfl); (case hx => rfl); (case hc => rfl); (case hsz => rfl); (case h1 => rfl); (case hb => (repeat (exact mhd _))); (case hfit => exact nle rfl); (case hov => ((repeat (first | with_reducible exact ov_nil | apply ov_cons)); done)); (case hu => repeat (exact Upd.here _ _))) | fail)
  refine v_retM [] (outsM_cell (sz := 2) (vs := [.int .i64 2, .func (.func 254) #[] #[]]) (e := 266) rfl rfl (by (repeat (exact mhd _))) rfl) (List.nil_sublist _) ⟨rfl, rfl⟩
noncomputable def doS (z : Int) (l : List Pr) (c : Cm) : List Pr × An := if z = 1 then doOne l c else doTwo l c
noncomputable def clientS (s : St) (c : Cm) : St × An :=
  if (whichS s.sess c.client c.seq).1 = 1 then (s, (whichS s.sess c.client c.seq).2)
  else if (whichS s.sess c.client c.seq).1 = 2 then (s, { ans0 c with err := 15 })
  else if HasP (verS s.schema) c.kind then (⟨s.schema, (doS s.schema s.pairs c).1, withG ksS s.sess (sesOf (doS s.schema s.pairs c).2)⟩, (doS s.schema s.pairs c).2)
  else (s, { ans0 c with err := 14 })
def StW (s : St) : Prop := RiseW ksP s.pairs ∧ Sized s.pairs ∧ s.pairs.length ≤ 150 ∧ (∀ x ∈ s.pairs, 0 ≤ x.rev) ∧ RiseW ksS s.sess ∧ s.sess.length ≤ 200
def CmW (c : Cm) : Prop := c.key.size ≤ 200 ∧ c.val.size ≤ 200
theorem client_s {G : GH} {s : St} {v : Value} (c : Cm) (hs : StV G s v) (hw : StW s) (hc : CmW c) :
    Con Tryz.prog 131 #[v, .agg c.cells.toArray] G [] (fun r G' μ' => GH.le G G' ∧ μ' = [] ∧ ∃ v', r = .tuple [v', .agg (clientS s c).2.cells.toArray].toArray ∧ StV G' (clientS s c).1 v') := by
  obtain ⟨A, c0, A', c', rfl, hp, hss⟩ := id hs
  obtain ⟨w1, w2, w3, w4, w5, w6⟩ := hw
  have qw := which_s c.client c.seq hss (riseG_pw.2 w5)
  have qh := vHas_s (verS s.schema) c.kind G
  have qd1 := doOne_s c hp w1 w2 hc.1 w3
  have qd2 := doTwo_s c hp w1 w2 hc.1 hc.2 w3 w4
  have qs := fun G' (hle : GH.le G G') a => withS_s a (hss.mono hle) w5 w6
  have hd1 : s.schema = 1 → doS s.schema s.pairs c = doOne s.pairs c := fun h => by unfold doS; rw [if_pos h]
  have hd2 : ¬ s.schema = 1 → doS s.schema s.pairs c = doTwo s.pairs c := fun h => by unfold doS; rw [if_neg h]
  have hv1 : s.schema = 1 → verS s.schema = 1 := fun h => by unfold verS; rw [if_pos h]
  have hv2 : ¬ s.schema = 1 → verS s.schema = 2 := fun h => by unfold verS; rw [if_neg h]
  have qo1 := of1_s G s.schema (.slice A s.pairs.length c0) (.slice A' s.sess.length c') rfl rfl
  have qo2 := of2_s G s.schema (.slice A s.pairs.length c0) (.slice A' s.sess.length c') rfl rfl
  unfold clientS
  generalize whichS s.sess c.client c.seq = w at *
  obtain ⟨wk, wa⟩ := w
  generalize doS s.schema s.pairs c = dd at *
  generalize verS s.schema = vv at *
  obtain ⟨schema, lp, ls⟩ := s
  obtain ⟨kind, cl, seq, key, val, old, node⟩ := c
  simp only at *
  clear w1 w2 w4 w5 hc
  obtain ⟨l1, d⟩ := dd
  generalize hpl : lp.length = pl at *
  generalize hsl : ls.length = sl at *
  (refine v_enter Tryz.func131 rfl Tryz.ntmps131 rfl ?_; intro B _)
  by_cases hz : schema = 1
  · have qo := qo1 hz
    have hdd := hd1 hz
    have hvv := hv1 hz
    subst hvv
    repeat' (first | (apply v_box (d := 2) (zs := [.int .i64 schema, .slice A pl c0, .slice A' sl c']); (case hx => rfl); (case hz => rfl); (case hd => rfl); intro b2) | (apply v_box (d := 3) (zs := (Cm.cells ⟨kind, cl, seq, key, val, old, node⟩)); (case hx => rfl); (case hz => rfl); (case hd => rfl); intro b3) | (apply v_alloc (d := 4); (case hz => rfl); (case hd => rfl); intro b4) | (apply v_alloc (d := 5); (case hz => rfl); (case hd => rfl); intro b5) | (apply v_alloc (d := 7); (case hz => rfl); (case hd => rfl); intro b7) | (apply v_alloc (d := 8); (case hz => rfl); (case hd => rfl); intro b8) | (apply v_alloc (d := 9); (case hz => rfl); (case hd => rfl); intro b9) | (apply v_read; (case hop => (apply r_loadNo; (case hx => rfl); (case h => repeat (first | exact mhd _ | apply mtl)); (case hd => rfl); (case hn => rfl))); (case hd => rfl)) | apply v_seq | apply v_region | apply v_nil | apply v_skip | apply v_block | apply v_blk | (apply v_pure; (case hop => first | (apply p_move <;> rfl) | (apply p_eq <;> rfl) | (apply p_assign <;> rfl) | (apply p_not <;> rfl) | (apply p_fieldAddrB <;> rfl) | (apply p_extract0 <;> rfl) | (apply p_extract1 <;> rfl) | (apply p_build; (case hz => rfl); (case hv => (simp only [List.map_cons, List.map_nil]; repeat (first | with_reducible exact evs_nil | (apply evs_cons; (case h1 => rfl))))); (case hb => (apply bldL; repeat (first | exact bld_nil | (apply bld_cons; (case hpf => rfl); (case hc => rfl); (case hs => rfl); (case hl => rfl); (case ho => ((repeat (first | with_reducible exact ov_nil | apply ov_cons)); done))))))) | fail); (case hd => rfl)) | (apply v_cond; (case hc => rfl); all_goals (intro h; (try simp only [reduceCtorEq, zzz] at h))) | (apply v_callJ (hs := qw); (case ha => rfl); (case hd => rfl)) | (apply v_callJ (hs := qo); (case ha => rfl); (case hd => rfl)) | (apply v_callJ (hs := qh); (case ha => rfl); (case hd => rfl)) | (apply v_read; (case hop => (apply r_load1; rfl; (apply Cell.own; (case h => (repeat (first | exact mhd _ | apply mtl))); rfl))); (case hd => rfl)) | (apply v_store; (case hp => rfl); (case hx => rfl); (case hc => rfl); (case hsz => rfl); (case h1 => rfl); (case hb => (repeat (first | exact mhd _ | apply mtl))); (case hfit => exact nle rfl); (case hov => ((repeat (first | with_reducible exact ov_nil | apply ov_cons)); done)); (case hu => repeat (first | exact Upd.here _ _ | apply Upd.there))) | fail)
    · rw [if_pos (by assumption)]
      refine d_start [(b2, .cells [.int .i64 schema, .slice A pl c0, .slice A' sl c'].toArray 32 (0, 0)), (b7, .cells [.int .i64 wa.client, .int .i64 wa.seq, .int .i64 wa.err, .bool wa.found, .string wa.val, .int .i64 wa.rev].toArray 40 (0, 0))] (by kernel_rfl) (by kernel_rfl) (by kernel_rfl) (by intro e he; (simp only [List.mem_cons, List.not_mem_nil, or_false] at he; rcases he with rfl | rfl <;> simp; done)) ?_
      all_goals (apply dtk 0; (case hi => rfl); (case hop => first | (apply r_loadNo; (case hx => rfl); (case h => (repeat (exact mhd _))); (case hd => (repeat (first | with_reducible exact dt_nil | apply dt_here))); (case hn => rfl)) | (apply r_load1; rfl; (apply Cell.own; (case h => (repeat (fail))); rfl)) | (apply r_loadN; rfl; (apply CellsAt.own; (case h => (repeat (fail)))); rfl)); (case hq => kernel_rfl))
      all_goals (apply dtk 1; (case hi => rfl); (case hop => first | (apply r_loadNo; (case hx => rfl); (case h => (repeat (first | exact mhd _ | apply mtl))); (case hd => (repeat (first | with_reducible exact dt_nil | apply dt_here))); (case hn => rfl)) | (apply r_load1; rfl; (apply Cell.own; (case h => (repeat (fail))); rfl)) | (apply r_loadN; rfl; (apply CellsAt.own; (case h => (repeat (fail)))); rfl)); (case hq => kernel_rfl))
      all_goals (apply d_store 2; (case hi => rfl); (case hr => kernel_rfl); (case hL => infer_instance); (case hp => rfl); (case hx => rfl); (case hc => rfl); (case hsz => rfl); (case h1 => rfl); (case hb => (repeat (first | exact mhd _ | apply mtl))); (case hfit => exact nle rfl); (case hov => ((repeat (first | with_reducible exact ov_nil | apply ov_cons)); done)); (case hu => repeat (first | exact Upd.here _ _ | apply Upd.there)); (case hν' => intro e he; (simp only [List.mem_cons, List.not_mem_nil, or_false] at he; rcases he with rfl | rfl <;> simp; done)))
      all_goals (apply d_store 3; (case hi => rfl); (case hr => kernel_rfl); (case hL => infer_instance); (case hp => rfl); (case hx => rfl); (case hc => rfl); (case hsz => rfl); (case h1 => rfl); (case hb => (repeat (first | exact mhd _ | apply mtl))); (case hfit => exact nle rfl); (case hov => ((repeat (first | with_reducible exact ov_nil | apply ov_cons)); done)); (case hu => repeat (first | exact Upd.here _ _ | apply Upd.there)); (case hν' => intro e he; (simp only [List.mem_cons, List.not_mem_nil, or_false] at he; rcases he with rfl | rfl <;> simp; done)))
      all_goals (apply d_done; (case hr => kernel_rfl))
      repeat' (fail)
      refine v_retM [] (outsM_cc (sz0 := 3) (vs0 := [.int .i64 schema, .slice A pl c0, .slice A' sl c']) (e0 := 32) (sz1 := 6) (vs1 := [.int .i64 wa.client, .int .i64 wa.seq, .int .i64 wa.err, .bool wa.found, .string wa.val, .int .i64 wa.rev]) (e1 := 40) rfl rfl (by repeat (first | exact mhd _ | apply mtl)) rfl rfl (by repeat (first | exact mhd _ | apply mtl)) rfl) (List.nil_sublist _) ⟨GH.le_refl _, rfl, _, rfl, A, c0, A', c', by subst hpl hsl; rfl, by subst hpl; exact hp, by subst hsl; exact hss⟩
    · rw [if_neg (by assumption), if_pos (by assumption)]
      refine d_start [(b2, .cells [.int .i64 schema, .slice A pl c0, .slice A' sl c'].toArray 32 (0, 0)), (b8, .cells [.int .i64 cl, .int .i64 seq, .int .i64 15, .bool false, .string ByteArray.empty, .int .i64 0].toArray 40 (0, 0))] (by kernel_rfl) (by kernel_rfl) (by kernel_rfl) (by intro e he; (simp only [List.mem_cons, List.not_mem_nil, or_false] at he; rcases he with rfl | rfl <;> simp; done)) ?_
      all_goals (apply dtk 0; (case hi => rfl); (case hop => first | (apply r_loadNo; (case hx => rfl); (case h => (repeat (exact mhd _))); (case hd => (repeat (first | with_reducible exact dt_nil | apply dt_here))); (case hn => rfl)) | (apply r_load1; rfl; (apply Cell.own; (case h => (repeat (fail))); rfl)) | (apply r_loadN; rfl; (apply CellsAt.own; (case h => (repeat (fail)))); rfl)); (case hq => kernel_rfl))
      all_goals (apply dtk 1; (case hi => rfl); (case hop => first | (apply r_loadNo; (case hx => rfl); (case h => (repeat (first | exact mhd _ | apply mtl))); (case hd => (repeat (first | with_reducible exact dt_nil | apply dt_here))); (case hn => rfl)) | (apply r_load1; rfl; (apply Cell.own; (case h => (repeat (fail))); rfl)) | (apply r_loadN; rfl; (apply CellsAt.own; (case h => (repeat (fail)))); rfl)); (case hq => kernel_rfl))
      all_goals (apply d_store 2; (case hi => rfl); (case hr => kernel_rfl); (case hL => infer_instance); (case hp => rfl); (case hx => rfl); (case hc => rfl); (case hsz => rfl); (case h1 => rfl); (case hb => (repeat (first | exact mhd _ | apply mtl))); (case hfit => exact nle rfl); (case hov => ((repeat (first | with_reducible exact ov_nil | apply ov_cons)); done)); (case hu => repeat (first | exact Upd.here _ _ | apply Upd.there)); (case hν' => intro e he; (simp only [List.mem_cons, List.not_mem_nil, or_false] at he; rcases he with rfl | rfl <;> simp; done)))
      all_goals (apply d_store 3; (case hi => rfl); (case hr => kernel_rfl); (case hL => infer_instance); (case hp => rfl); (case hx => rfl); (case hc => rfl); (case hsz => rfl); (case h1 => rfl); (case hb => (repeat (first | exact mhd _ | apply mtl))); (case hfit => exact nle rfl); (case hov => ((repeat (first | with_reducible exact ov_nil | apply ov_cons)); done)); (case hu => repeat (first | exact Upd.here _ _ | apply Upd.there)); (case hν' => intro e he; (simp only [List.mem_cons, List.not_mem_nil, or_false] at he; rcases he with rfl | rfl <;> simp; done)))
      all_goals (apply d_done; (case hr => kernel_rfl))
      repeat' (fail)
      refine v_retM [] (outsM_cc (sz0 := 3) (vs0 := [.int .i64 schema, .slice A pl c0, .slice A' sl c']) (e0 := 32) (sz1 := 6) (vs1 := [.int .i64 cl, .int .i64 seq, .int .i64 15, .bool false, .string ByteArray.empty, .int .i64 0]) (e1 := 40) rfl rfl (by repeat (first | exact mhd _ | apply mtl)) rfl rfl (by repeat (first | exact mhd _ | apply mtl)) rfl) (List.nil_sublist _) ⟨GH.le_refl _, rfl, _, rfl, A, c0, A', c', by subst hpl hsl; rfl, by subst hpl; exact hp, by subst hsl; exact hss⟩
    · rw [if_neg (by assumption), if_neg (by assumption), if_neg (by assumption)]
      refine d_start [(b2, .cells [.int .i64 schema, .slice A pl c0, .slice A' sl c'].toArray 32 (0, 0)), (b8, .cells [.int .i64 cl, .int .i64 seq, .int .i64 14, .bool false, .string ByteArray.empty, .int .i64 0].toArray 40 (0, 0))] (by kernel_rfl) (by kernel_rfl) (by kernel_rfl) (by intro e he; (simp only [List.mem_cons, List.not_mem_nil, or_false] at he; rcases he with rfl | rfl <;> simp; done)) ?_
      all_goals (apply dtk 0; (case hi => rfl); (case hop => first | (apply r_loadNo; (case hx => rfl); (case h => (repeat (exact mhd _))); (case hd => (repeat (first | with_reducible exact dt_nil | apply dt_here))); (case hn => rfl)) | (apply r_load1; rfl; (apply Cell.own; (case h => (repeat (fail))); rfl)) | (apply r_loadN; rfl; (apply CellsAt.own; (case h => (repeat (fail)))); rfl)); (case hq => kernel_rfl))
      all_goals (apply dtk 1; (case hi => rfl); (case hop => first | (apply r_loadNo; (case hx => rfl); (case h => (repeat (first | exact mhd _ | apply mtl))); (case hd => (repeat (first | with_reducible exact dt_nil | apply dt_here))); (case hn => rfl)) | (apply r_load1; rfl; (apply Cell.own; (case h => (repeat (fail))); rfl)) | (apply r_loadN; rfl; (apply CellsAt.own; (case h => (repeat (fail)))); rfl)); (case hq => kernel_rfl))
      all_goals (apply d_store 2; (case hi => rfl); (case hr => kernel_rfl); (case hL => infer_instance); (case hp => rfl); (case hx => rfl); (case hc => rfl); (case hsz => rfl); (case h1 => rfl); (case hb => (repeat (first | exact mhd _ | apply mtl))); (case hfit => exact nle rfl); (case hov => ((repeat (first | with_reducible exact ov_nil | apply ov_cons)); done)); (case hu => repeat (first | exact Upd.here _ _ | apply Upd.there)); (case hν' => intro e he; (simp only [List.mem_cons, List.not_mem_nil, or_false] at he; rcases he with rfl | rfl <;> simp; done)))
      all_goals (apply d_store 3; (case hi => rfl); (case hr => kernel_rfl); (case hL => infer_instance); (case hp => rfl); (case hx => rfl); (case hc => rfl); (case hsz => rfl); (case h1 => rfl); (case hb => (repeat (first | exact mhd _ | apply mtl))); (case hfit => exact nle rfl); (case hov => ((repeat (first | with_reducible exact ov_nil | apply ov_cons)); done)); (case hu => repeat (first | exact Upd.here _ _ | apply Upd.there)); (case hν' => intro e he; (simp only [List.mem_cons, List.not_mem_nil, or_false] at he; rcases he with rfl | rfl <;> simp; done)))
      all_goals (apply d_done; (case hr => kernel_rfl))
      repeat' (fail)
      refine v_retM [] (outsM_cc (sz0 := 3) (vs0 := [.int .i64 schema, .slice A pl c0, .slice A' sl c']) (e0 := 32) (sz1 := 6) (vs1 := [.int .i64 cl, .int .i64 seq, .int .i64 14, .bool false, .string ByteArray.empty, .int .i64 0]) (e1 := 40) rfl rfl (by repeat (first | exact mhd _ | apply mtl)) rfl rfl (by repeat (first | exact mhd _ | apply mtl)) rfl) (List.nil_sublist _) ⟨GH.le_refl _, rfl, _, rfl, A, c0, A', c', by subst hpl hsl; rfl, by subst hpl; exact hp, by subst hsl; exact hss⟩
    · rw [if_neg (by assumption), if_neg (by assumption), if_pos (by assumption)]
      refine v_callF0 (μ1 := []) rfl rfl qd1 (List.Perm.refl _) rfl ?_
      rintro _ G1 ν1 - ⟨hG1, v2, rfl, hg2⟩
      subst hG1
      rw [← hdd] at hg2 ⊢
      simp only at hg2 ⊢
      refine v_frz ν1 (PickA.here _) ?_
      intro G2 hle2 hG2
      have hp2 := row_of_grow Pr.len hg2 hG2
      obtain ⟨A2, c2, rfl, -⟩ := id hp2.open
      have qs2 := qs G2 hle2 d
      generalize hlw : withG ksS ls (sesOf d) = lw at *
      repeat' (first | (apply v_alloc (d := 11); (case hz => rfl); (case hd => rfl); intro b11) | (apply v_read; (case hop => (apply r_loadNo; (case hx => rfl); (case h => repeat (exact mhd _)); (case hd => rfl); (case hn => rfl))); (case hd => rfl)) | apply v_seq | apply v_region | apply v_nil | (apply v_pure; (case hop => first | (apply p_move <;> rfl) | (apply p_assign <;> rfl) | (apply p_fieldAddrB <;> rfl) | (apply p_extract0 <;> rfl) | (apply p_extract1 <;> rfl) | fail); (case hd => rfl)) | (apply v_read; (case hop => (apply r_load1; rfl; (apply Cell.own; (case h => (repeat (first | exact mhd _ | apply mtl))); rfl))); (case hd => rfl)) | (apply v_store; (case hp => rfl); (case hx => rfl); (case hc => rfl); (case hsz => rfl); (case h1 => rfl); (case hb => (repeat (first | exact mhd _ | apply mtl))); (case hfit => exact nle rfl); (case hov => ((repeat (first | with_reducible exact ov_nil | apply ov_cons)); done)); (case hu => repeat (first | exact Upd.here _ _ | apply Upd.there))) | fail)
      refine v_call (μ1 := []) rfl qs2 (List.Perm.refl _) rfl ?_
      rintro v3 G3 ν3 - ⟨hG3, hg3⟩
      subst hG3
      refine v_frz ν3 (PickA.here _) ?_
      intro G4 hle4 hG4
      have hs4 := row_of_grow Ss.len hg3 hG4
      obtain ⟨A3, c3, rfl, -⟩ := id hs4.open
      repeat' (first | apply v_seq | apply v_nil | (apply v_pure; (case hop => (apply p_fieldAddrB <;> rfl)); (case hd => rfl)) | (apply v_store; (case hp => rfl); (case hx => rfl); (case hc => rfl); (case hsz => rfl); (case h1 => rfl); (case hb => (repeat (first | exact mhd _ | apply mtl))); (case hfit => exact nle rfl); (case hov => ((repeat (first | with_reducible exact ov_nil | apply ov_cons)); done)); (case hu => repeat (first | exact Upd.here _ _ | apply Upd.there))) | fail)
      refine d_start [(b2, .cells [.int .i64 schema, .slice A2 l1.length c2, .slice A3 lw.length c3].toArray 32 (0, 0)), (b11, .cells [.int .i64 d.client, .int .i64 d.seq, .int .i64 d.err, .bool d.found, .string d.val, .int .i64 d.rev].toArray 40 (0, 0))] (by kernel_rfl) (by kernel_rfl) (by kernel_rfl) (by intro e he; (simp only [List.mem_cons, List.not_mem_nil, or_false] at he; rcases he with rfl | rfl <;> simp; done)) ?_
      all_goals (apply dtk 0; (case hi => rfl); (case hop => first | (apply r_loadNo; (case hx => rfl); (case h => (repeat (exact mhd _))); (case hd => (repeat (first | with_reducible exact dt_nil | apply dt_here))); (case hn => rfl)) | (apply r_load1; rfl; (apply Cell.own; (case h => (repeat (fail))); rfl)) | (apply r_loadN; rfl; (apply CellsAt.own; (case h => (repeat (fail)))); rfl)); (case hq => kernel_rfl))
      all_goals (apply dtk 1; (case hi => rfl); (case hop => first | (apply r_loadNo; (case hx => rfl); (case h => (repeat (first | exact mhd _ | apply mtl))); (case hd => (repeat (first | with_reducible exact dt_nil | apply dt_here))); (case hn => rfl)) | (apply r_load1; rfl; (apply Cell.own; (case h => (repeat (fail))); rfl)) | (apply r_loadN; rfl; (apply CellsAt.own; (case h => (repeat (fail)))); rfl)); (case hq => kernel_rfl))
      all_goals (apply d_store 2; (case hi => rfl); (case hr => kernel_rfl); (case hL => infer_instance); (case hp => rfl); (case hx => rfl); (case hc => rfl); (case hsz => rfl); (case h1 => rfl); (case hb => (repeat (first | exact mhd _ | apply mtl))); (case hfit => exact nle rfl); (case hov => ((repeat (first | with_reducible exact ov_nil | apply ov_cons)); done)); (case hu => repeat (first | exact Upd.here _ _ | apply Upd.there)); (case hν' => intro e he; (simp only [List.mem_cons, List.not_mem_nil, or_false] at he; rcases he with rfl | rfl <;> simp; done)))
      all_goals (apply d_store 3; (case hi => rfl); (case hr => kernel_rfl); (case hL => infer_instance); (case hp => rfl); (case hx => rfl); (case hc => rfl); (case hsz => rfl); (case h1 => rfl); (case hb => (repeat (first | exact mhd _ | apply mtl))); (case hfit => exact nle rfl); (case hov => ((repeat (first | with_reducible exact ov_nil | apply ov_cons)); done)); (case hu => repeat (first | exact Upd.here _ _ | apply Upd.there)); (case hν' => intro e he; (simp only [List.mem_cons, List.not_mem_nil, or_false] at he; rcases he with rfl | rfl <;> simp; done)))
      all_goals (apply d_done; (case hr => kernel_rfl))
      repeat' (fail)
      refine v_retM [] (outsM_cc (sz0 := 3) (vs0 := [.int .i64 schema, .slice A2 l1.length c2, .slice A3 lw.length c3]) (e0 := 32) (sz1 := 6) (vs1 := [.int .i64 d.client, .int .i64 d.seq, .int .i64 d.err, .bool d.found, .string d.val, .int .i64 d.rev]) (e1 := 40) rfl rfl (by repeat (first | exact mhd _ | apply mtl)) rfl rfl (by repeat (first | exact mhd _ | apply mtl)) rfl) (List.nil_sublist _) ⟨GH.le_trans hle2 hle4, rfl, _, rfl, A2, c2, A3, c3, rfl, hp2.mono hle4, hs4⟩
  · have qo := qo2 hz
    have hdd := hd2 hz
    have hvv := hv2 hz
    subst hvv
    repeat' (first | (apply v_box (d := 2) (zs := [.int .i64 schema, .slice A pl c0, .slice A' sl c']); (case hx => rfl); (case hz => rfl); (case hd => rfl); intro b2) | (apply v_box (d := 3) (zs := (Cm.cells ⟨kind, cl, seq, key, val, old, node⟩)); (case hx => rfl); (case hz => rfl); (case hd => rfl); intro b3) | (apply v_alloc (d := 4); (case hz => rfl); (case hd => rfl); intro b4) | (apply v_alloc (d := 5); (case hz => rfl); (case hd => rfl); intro b5) | (apply v_alloc (d := 7); (case hz => rfl); (case hd => rfl); intro b7) | (apply v_alloc (d := 8); (case hz => rfl); (case hd => rfl); intro b8) | (apply v_alloc (d := 9); (case hz => rfl); (case hd => rfl); intro b9) | (apply v_read; (case hop => (apply r_loadNo; (case hx => rfl); (case h => repeat (first | exact mhd _ | apply mtl)); (case hd => rfl); (case hn => rfl))); (case hd => rfl)) | apply v_seq | apply v_region | apply v_nil | apply v_skip | apply v_block | apply v_blk | (apply v_pure; (case hop => first | (apply p_move <;> rfl) | (apply p_eq <;> rfl) | (apply p_assign <;> rfl) | (apply p_not <;> rfl) | (apply p_fieldAddrB <;> rfl) | (apply p_extract0 <;> rfl) | (apply p_extract1 <;> rfl) | (apply p_build; (case hz => rfl); (case hv => (simp only [List.map_cons, List.map_nil]; repeat (first | with_reducible exact evs_nil | (apply evs_cons; (case h1 => rfl))))); (case hb => (apply bldL; repeat (first | exact bld_nil | (apply bld_cons; (case hpf => rfl); (case hc => rfl); (case hs => rfl); (case hl => rfl); (case ho => ((repeat (first | with_reducible exact ov_nil | apply ov_cons)); done))))))) | fail); (case hd => rfl)) | (apply v_cond; (case hc => rfl); all_goals (intro h; (try simp only [reduceCtorEq, zzz] at h))) | (apply v_callJ (hs := qw); (case ha => rfl); (case hd => rfl)) | (apply v_callJ (hs := qo); (case ha => rfl); (case hd => rfl)) | (apply v_callJ (hs := qh); (case ha => rfl); (case hd => rfl)) | (apply v_read; (case hop => (apply r_load1; rfl; (apply Cell.own; (case h => (repeat (first | exact mhd _ | apply mtl))); rfl))); (case hd => rfl)) | (apply v_store; (case hp => rfl); (case hx => rfl); (case hc => rfl); (case hsz => rfl); (case h1 => rfl); (case hb => (repeat (first | exact mhd _ | apply mtl))); (case hfit => exact nle rfl); (case hov => ((repeat (first | with_reducible exact ov_nil | apply ov_cons)); done)); (case hu => repeat (first | exact Upd.here _ _ | apply Upd.there))) | fail)
    · rw [if_pos (by assumption)]
      refine d_start [(b2, .cells [.int .i64 schema, .slice A pl c0, .slice A' sl c'].toArray 32 (0, 0)), (b7, .cells [.int .i64 wa.client, .int .i64 wa.seq, .int .i64 wa.err, .bool wa.found, .string wa.val, .int .i64 wa.rev].toArray 40 (0, 0))] (by kernel_rfl) (by kernel_rfl) (by kernel_rfl) (by intro e he; (simp only [List.mem_cons, List.not_mem_nil, or_false] at he; rcases he with rfl | rfl <;> simp; done)) ?_
      all_goals (apply dtk 0; (case hi => rfl); (case hop => first | (apply r_loadNo; (case hx => rfl); (case h => (repeat (exact mhd _))); (case hd => (repeat (first | with_reducible exact dt_nil | apply dt_here))); (case hn => rfl)) | (apply r_load1; rfl; (apply Cell.own; (case h => (repeat (fail))); rfl)) | (apply r_loadN; rfl; (apply CellsAt.own; (case h => (repeat (fail)))); rfl)); (case hq => kernel_rfl))
      all_goals (apply dtk 1; (case hi => rfl); (case hop => first | (apply r_loadNo; (case hx => rfl); (case h => (repeat (first | exact mhd _ | apply mtl))); (case hd => (repeat (first | with_reducible exact dt_nil | apply dt_here))); (case hn => rfl)) | (apply r_load1; rfl; (apply Cell.own; (case h => (repeat (fail))); rfl)) | (apply r_loadN; rfl; (apply CellsAt.own; (case h => (repeat (fail)))); rfl)); (case hq => kernel_rfl))
      all_goals (apply d_store 2; (case hi => rfl); (case hr => kernel_rfl); (case hL => infer_instance); (case hp => rfl); (case hx => rfl); (case hc => rfl); (case hsz => rfl); (case h1 => rfl); (case hb => (repeat (first | exact mhd _ | apply mtl))); (case hfit => exact nle rfl); (case hov => ((repeat (first | with_reducible exact ov_nil | apply ov_cons)); done)); (case hu => repeat (first | exact Upd.here _ _ | apply Upd.there)); (case hν' => intro e he; (simp only [List.mem_cons, List.not_mem_nil, or_false] at he; rcases he with rfl | rfl <;> simp; done)))
      all_goals (apply d_store 3; (case hi => rfl); (case hr => kernel_rfl); (case hL => infer_instance); (case hp => rfl); (case hx => rfl); (case hc => rfl); (case hsz => rfl); (case h1 => rfl); (case hb => (repeat (first | exact mhd _ | apply mtl))); (case hfit => exact nle rfl); (case hov => ((repeat (first | with_reducible exact ov_nil | apply ov_cons)); done)); (case hu => repeat (first | exact Upd.here _ _ | apply Upd.there)); (case hν' => intro e he; (simp only [List.mem_cons, List.not_mem_nil, or_false] at he; rcases he with rfl | rfl <;> simp; done)))
      all_goals (apply d_done; (case hr => kernel_rfl))
      repeat' (fail)
      refine v_retM [] (outsM_cc (sz0 := 3) (vs0 := [.int .i64 schema, .slice A pl c0, .slice A' sl c']) (e0 := 32) (sz1 := 6) (vs1 := [.int .i64 wa.client, .int .i64 wa.seq, .int .i64 wa.err, .bool wa.found, .string wa.val, .int .i64 wa.rev]) (e1 := 40) rfl rfl (by repeat (first | exact mhd _ | apply mtl)) rfl rfl (by repeat (first | exact mhd _ | apply mtl)) rfl) (List.nil_sublist _) ⟨GH.le_refl _, rfl, _, rfl, A, c0, A', c', by subst hpl hsl; rfl, by subst hpl; exact hp, by subst hsl; exact hss⟩
    · rw [if_neg (by assumption), if_pos (by assumption)]
      refine d_start [(b2, .cells [.int .i64 schema, .slice A pl c0, .slice A' sl c'].toArray 32 (0, 0)), (b8, .cells [.int .i64 cl, .int .i64 seq, .int .i64 15, .bool false, .string ByteArray.empty, .int .i64 0].toArray 40 (0, 0))] (by kernel_rfl) (by kernel_rfl) (by kernel_rfl) (by intro e he; (simp only [List.mem_cons, List.not_mem_nil, or_false] at he; rcases he with rfl | rfl <;> simp; done)) ?_
      all_goals (apply dtk 0; (case hi => rfl); (case hop => first | (apply r_loadNo; (case hx => rfl); (case h => (repeat (exact mhd _))); (case hd => (repeat (first | with_reducible exact dt_nil | apply dt_here))); (case hn => rfl)) | (apply r_load1; rfl; (apply Cell.own; (case h => (repeat (fail))); rfl)) | (apply r_loadN; rfl; (apply CellsAt.own; (case h => (repeat (fail)))); rfl)); (case hq => kernel_rfl))
      all_goals (apply dtk 1; (case hi => rfl); (case hop => first | (apply r_loadNo; (case hx => rfl); (case h => (repeat (first | exact mhd _ | apply mtl))); (case hd => (repeat (first | with_reducible exact dt_nil | apply dt_here))); (case hn => rfl)) | (apply r_load1; rfl; (apply Cell.own; (case h => (repeat (fail))); rfl)) | (apply r_loadN; rfl; (apply CellsAt.own; (case h => (repeat (fail)))); rfl)); (case hq => kernel_rfl))
      all_goals (apply d_store 2; (case hi => rfl); (case hr => kernel_rfl); (case hL => infer_instance); (case hp => rfl); (case hx => rfl); (case hc => rfl); (case hsz => rfl); (case h1 => rfl); (case hb => (repeat (first | exact mhd _ | apply mtl))); (case hfit => exact nle rfl); (case hov => ((repeat (first | with_reducible exact ov_nil | apply ov_cons)); done)); (case hu => repeat (first | exact Upd.here _ _ | apply Upd.there)); (case hν' => intro e he; (simp only [List.mem_cons, List.not_mem_nil, or_false] at he; rcases he with rfl | rfl <;> simp; done)))
      all_goals (apply d_store 3; (case hi => rfl); (case hr => kernel_rfl); (case hL => infer_instance); (case hp => rfl); (case hx => rfl); (case hc => rfl); (case hsz => rfl); (case h1 => rfl); (case hb => (repeat (first | exact mhd _ | apply mtl))); (case hfit => exact nle rfl); (case hov => ((repeat (first | with_reducible exact ov_nil | apply ov_cons)); done)); (case hu => repeat (first | exact Upd.here _ _ | apply Upd.there)); (case hν' => intro e he; (simp only [List.mem_cons, List.not_mem_nil, or_false] at he; rcases he with rfl | rfl <;> simp; done)))
      all_goals (apply d_done; (case hr => kernel_rfl))
      repeat' (fail)
      refine v_retM [] (outsM_cc (sz0 := 3) (vs0 := [.int .i64 schema, .slice A pl c0, .slice A' sl c']) (e0 := 32) (sz1 := 6) (vs1 := [.int .i64 cl, .int .i64 seq, .int .i64 15, .bool false, .string ByteArray.empty, .int .i64 0]) (e1 := 40) rfl rfl (by repeat (first | exact mhd _ | apply mtl)) rfl rfl (by repeat (first | exact mhd _ | apply mtl)) rfl) (List.nil_sublist _) ⟨GH.le_refl _, rfl, _, rfl, A, c0, A', c', by subst hpl hsl; rfl, by subst hpl; exact hp, by subst hsl; exact hss⟩
    · rw [if_neg (by assumption), if_neg (by assumption), if_neg (by assumption)]
      refine d_start [(b2, .cells [.int .i64 schema, .slice A pl c0, .slice A' sl c'].toArray 32 (0, 0)), (b8, .cells [.int .i64 cl, .int .i64 seq, .int .i64 14, .bool false, .string ByteArray.empty, .int .i64 0].toArray 40 (0, 0))] (by kernel_rfl) (by kernel_rfl) (by kernel_rfl) (by intro e he; (simp only [List.mem_cons, List.not_mem_nil, or_false] at he; rcases he with rfl | rfl <;> simp; done)) ?_
      all_goals (apply dtk 0; (case hi => rfl); (case hop => first | (apply r_loadNo; (case hx => rfl); (case h => (repeat (exact mhd _))); (case hd => (repeat (first | with_reducible exact dt_nil | apply dt_here))); (case hn => rfl)) | (apply r_load1; rfl; (apply Cell.own; (case h => (repeat (fail))); rfl)) | (apply r_loadN; rfl; (apply CellsAt.own; (case h => (repeat (fail)))); rfl)); (case hq => kernel_rfl))
      all_goals (apply dtk 1; (case hi => rfl); (case hop => first | (apply r_loadNo; (case hx => rfl); (case h => (repeat (first | exact mhd _ | apply mtl))); (case hd => (repeat (first | with_reducible exact dt_nil | apply dt_here))); (case hn => rfl)) | (apply r_load1; rfl; (apply Cell.own; (case h => (repeat (fail))); rfl)) | (apply r_loadN; rfl; (apply CellsAt.own; (case h => (repeat (fail)))); rfl)); (case hq => kernel_rfl))
      all_goals (apply d_store 2; (case hi => rfl); (case hr => kernel_rfl); (case hL => infer_instance); (case hp => rfl); (case hx => rfl); (case hc => rfl); (case hsz => rfl); (case h1 => rfl); (case hb => (repeat (first | exact mhd _ | apply mtl))); (case hfit => exact nle rfl); (case hov => ((repeat (first | with_reducible exact ov_nil | apply ov_cons)); done)); (case hu => repeat (first | exact Upd.here _ _ | apply Upd.there)); (case hν' => intro e he; (simp only [List.mem_cons, List.not_mem_nil, or_false] at he; rcases he with rfl | rfl <;> simp; done)))
      all_goals (apply d_store 3; (case hi => rfl); (case hr => kernel_rfl); (case hL => infer_instance); (case hp => rfl); (case hx => rfl); (case hc => rfl); (case hsz => rfl); (case h1 => rfl); (case hb => (repeat (first | exact mhd _ | apply mtl))); (case hfit => exact nle rfl); (case hov => ((repeat (first | with_reducible exact ov_nil | apply ov_cons)); done)); (case hu => repeat (first | exact Upd.here _ _ | apply Upd.there)); (case hν' => intro e he; (simp only [List.mem_cons, List.not_mem_nil, or_false] at he; rcases he with rfl | rfl <;> simp; done)))
      all_goals (apply d_done; (case hr => kernel_rfl))
      repeat' (fail)
      refine v_retM [] (outsM_cc (sz0 := 3) (vs0 := [.int .i64 schema, .slice A pl c0, .slice A' sl c']) (e0 := 32) (sz1 := 6) (vs1 := [.int .i64 cl, .int .i64 seq, .int .i64 14, .bool false, .string ByteArray.empty, .int .i64 0]) (e1 := 40) rfl rfl (by repeat (first | exact mhd _ | apply mtl)) rfl rfl (by repeat (first | exact mhd _ | apply mtl)) rfl) (List.nil_sublist _) ⟨GH.le_refl _, rfl, _, rfl, A, c0, A', c', by subst hpl hsl; rfl, by subst hpl; exact hp, by subst hsl; exact hss⟩
    · rw [if_neg (by assumption), if_neg (by assumption), if_pos (by assumption)]
      refine v_callF0 (μ1 := []) rfl rfl qd2 (List.Perm.refl _) rfl ?_
      rintro _ G1 ν1 - ⟨hG1, v2, rfl, hg2⟩
      subst hG1
      rw [← hdd] at hg2 ⊢
      simp only at hg2 ⊢
      refine v_frz ν1 (PickA.here _) ?_
      intro G2 hle2 hG2
      have hp2 := row_of_grow Pr.len hg2 hG2
      obtain ⟨A2, c2, rfl, -⟩ := id hp2.open
      have qs2 := qs G2 hle2 d
      generalize hlw : withG ksS ls (sesOf d) = lw at *
      repeat' (first | (apply v_alloc (d := 11); (case hz => rfl); (case hd => rfl); intro b11) | (apply v_read; (case hop => (apply r_loadNo; (case hx => rfl); (case h => repeat (exact mhd _)); (case hd => rfl); (case hn => rfl))); (case hd => rfl)) | apply v_seq | apply v_region | apply v_nil | (apply v_pure; (case hop => first | (apply p_move <;> rfl) | (apply p_assign <;> rfl) | (apply p_fieldAddrB <;> rfl) | (apply p_extract0 <;> rfl) | (apply p_extract1 <;> rfl) | fail); (case hd => rfl)) | (apply v_read; (case hop => (apply r_load1; rfl; (apply Cell.own; (case h => (repeat (first | exact mhd _ | apply mtl))); rfl))); (case hd => rfl)) | (apply v_store; (case hp => rfl); (case hx => rfl); (case hc => rfl); (case hsz => rfl); (case h1 => rfl); (case hb => (repeat (first | exact mhd _ | apply mtl))); (case hfit => exact nle rfl); (case hov => ((repeat (first | with_reducible exact ov_nil | apply ov_cons)); done)); (case hu => repeat (first | exact Upd.here _ _ | apply Upd.there))) | fail)
      refine v_call (μ1 := []) rfl qs2 (List.Perm.refl _) rfl ?_
      rintro v3 G3 ν3 - ⟨hG3, hg3⟩
      subst hG3
      refine v_frz ν3 (PickA.here _) ?_
      intro G4 hle4 hG4
      have hs4 := row_of_grow Ss.len hg3 hG4
      obtain ⟨A3, c3, rfl, -⟩ := id hs4.open
      repeat' (first | apply v_seq | apply v_nil | (apply v_pure; (case hop => (apply p_fieldAddrB <;> rfl)); (case hd => rfl)) | (apply v_store; (case hp => rfl); (case hx => rfl); (case hc => rfl); (case hsz => rfl); (case h1 => rfl); (case hb => (repeat (first | exact mhd _ | apply mtl))); (case hfit => exact nle rfl); (case hov => ((repeat (first | with_reducible exact ov_nil | apply ov_cons)); done)); (case hu => repeat (first | exact Upd.here _ _ | apply Upd.there))) | fail)
      refine d_start [(b2, .cells [.int .i64 schema, .slice A2 l1.length c2, .slice A3 lw.length c3].toArray 32 (0, 0)), (b11, .cells [.int .i64 d.client, .int .i64 d.seq, .int .i64 d.err, .bool d.found, .string d.val, .int .i64 d.rev].toArray 40 (0, 0))] (by kernel_rfl) (by kernel_rfl) (by kernel_rfl) (by intro e he; (simp only [List.mem_cons, List.not_mem_nil, or_false] at he; rcases he with rfl | rfl <;> simp; done)) ?_
      all_goals (apply dtk 0; (case hi => rfl); (case hop => first | (apply r_loadNo; (case hx => rfl); (case h => (repeat (exact mhd _))); (case hd => (repeat (first | with_reducible exact dt_nil | apply dt_here))); (case hn => rfl)) | (apply r_load1; rfl; (apply Cell.own; (case h => (repeat (fail))); rfl)) | (apply r_loadN; rfl; (apply CellsAt.own; (case h => (repeat (fail)))); rfl)); (case hq => kernel_rfl))
      all_goals (apply dtk 1; (case hi => rfl); (case hop => first | (apply r_loadNo; (case hx => rfl); (case h => (repeat (first | exact mhd _ | apply mtl))); (case hd => (repeat (first | with_reducible exact dt_nil | apply dt_here))); (case hn => rfl)) | (apply r_load1; rfl; (apply Cell.own; (case h => (repeat (fail))); rfl)) | (apply r_loadN; rfl; (apply CellsAt.own; (case h => (repeat (fail)))); rfl)); (case hq => kernel_rfl))
      all_goals (apply d_store 2; (case hi => rfl); (case hr => kernel_rfl); (case hL => infer_instance); (case hp => rfl); (case hx => rfl); (case hc => rfl); (case hsz => rfl); (case h1 => rfl); (case hb => (repeat (first | exact mhd _ | apply mtl))); (case hfit => exact nle rfl); (case hov => ((repeat (first | with_reducible exact ov_nil | apply ov_cons)); done)); (case hu => repeat (first | exact Upd.here _ _ | apply Upd.there)); (case hν' => intro e he; (simp only [List.mem_cons, List.not_mem_nil, or_false] at he; rcases he with rfl | rfl <;> simp; done)))
      all_goals (apply d_store 3; (case hi => rfl); (case hr => kernel_rfl); (case hL => infer_instance); (case hp => rfl); (case hx => rfl); (case hc => rfl); (case hsz => rfl); (case h1 => rfl); (case hb => (repeat (first | exact mhd _ | apply mtl))); (case hfit => exact nle rfl); (case hov => ((repeat (first | with_reducible exact ov_nil | apply ov_cons)); done)); (case hu => repeat (first | exact Upd.here _ _ | apply Upd.there)); (case hν' => intro e he; (simp only [List.mem_cons, List.not_mem_nil, or_false] at he; rcases he with rfl | rfl <;> simp; done)))
      all_goals (apply d_done; (case hr => kernel_rfl))
      repeat' (fail)
      refine v_retM [] (outsM_cc (sz0 := 3) (vs0 := [.int .i64 schema, .slice A2 l1.length c2, .slice A3 lw.length c3]) (e0 := 32) (sz1 := 6) (vs1 := [.int .i64 d.client, .int .i64 d.seq, .int .i64 d.err, .bool d.found, .string d.val, .int .i64 d.rev]) (e1 := 40) rfl rfl (by repeat (first | exact mhd _ | apply mtl)) rfl rfl (by repeat (first | exact mhd _ | apply mtl)) rfl) (List.nil_sublist _) ⟨GH.le_trans hle2 hle4, rfl, _, rfl, A2, c2, A3, c3, rfl, hp2.mono hle4, hs4⟩
def StP (s : St) : Prop := SesP s.sess ∧ ((s.schema = 1 ∧ s.sess.any revS = false ∧ OneP s.pairs) ∨ (s.schema = 2 ∧ TwoP s.pairs))
noncomputable instance (s : St) : Decidable (StP s) := Classical.propDecidable _
def StZ (s : St) : Prop := Sized s.pairs ∧ SizedS s.sess ∧ s.pairs.length ≤ 150 ∧ s.sess.length ≤ 150
theorem migCheck_s {G : GH} (hT : TabsG G) {s : St} {v : Value} (hs : StV G s v) (hz : StZ s) : Con Tryz.prog 69 #[v] G [] (Just (.int .i64 (if StP s then 0 else 3)) G) := by
  obtain ⟨A, c, A', c', rfl, hp, hss⟩ := id hs
  obtain ⟨z1, z2, z3, z4⟩ := hz
  have q1 := sesCheck_s hT hss z2
  have q2 := oneCheck_s hT hp z1
  have q3 := twoCheck_s hT hp z1 (by omega)
  have q4 := ssRevHas_s hss
  have hst : StP s ↔ SesP s.sess ∧ ((s.schema = 1 ∧ s.sess.any revS = false ∧ OneP s.pairs) ∨ (s.schema = 2 ∧ TwoP s.pairs)) := Iff.rfl
  apply Con.just
  generalize hi : (if StP s then (0 : Int) else 3) = iv
  have hyes : StP s → iv = 0 := fun h => by rw [← hi, if_pos h]
  have hnot : ¬ StP s → iv = 3 := fun h => by rw [← hi, if_neg h]
  rw [hst] at hyes hnot
  clear hi hst
  obtain ⟨schema, lp, ls⟩ := s
  simp only at *
  generalize hr : ls.any revS = rb at *
  generalize lp.length = pl at *
  generalize ls.length = sl at *
  (refine v_enter Tryz.func69 rfl Tryz.ntmps69 rfl ?_; intro B _)
  by_cases h1 : SesP ls
  · rw [if_pos h1] at q1
    by_cases h2 : OneP lp
    all_goals by_cases h3 : TwoP lp
    all_goals
      (first | rw [if_pos h2] at q2 | rw [if_neg h2] at q2)
      (first | rw [if_pos h3] at q3 | rw [if_neg h3] at q3)
      repeat' (first | (apply v_box (zs := [.int .i64 schema, .slice A pl c, .slice A' sl c']); (case hx => rfl); (case hz => rfl); (case hd => rfl); intro b) | apply v_seq | apply v_region | apply v_nil | apply v_skip | apply v_block | apply v_blk | (apply v_pure; (case hop => first | (apply p_move <;> rfl) | (apply p_nes <;> rfl) | (apply p_eq <;> rfl) | (apply p_assign <;> rfl) | (apply p_fieldAddrB <;> rfl) | fail); (case hd => rfl)) | (apply v_condF; (case hc => rfl)) | (apply v_cond; (case hc => rfl); all_goals (intro h; (try simp only [reduceCtorEq, zzz] at h))) | (apply v_callJ (hs := q1); (case ha => rfl); (case hd => rfl)) | (apply v_callJ (hs := q2); (case ha => rfl); (case hd => rfl)) | (apply v_callJ (hs := q3); (case ha => rfl); (case hd => rfl)) | (apply v_callJ (hs := q4); (case ha => rfl); (case hd => rfl)) | (apply v_read; (case hop => (apply r_load1; rfl; (apply Cell.own; (case h => (repeat (exact mhd _))); rfl))); (case hd => rfl)) | fail)
    all_goals
      (refine v_ret [] (outsA1 rfl rfl) (by repeat (exact List.nil_sublist _)) ?_
       refine ⟨?_, rfl⟩
       first
         | (rw [hyes ⟨h1, .inl ⟨by assumption, by (assumption), h2⟩⟩])
         | (rw [hyes ⟨h1, .inr ⟨by assumption, h3⟩⟩])
         | (rw [hnot]
            rintro ⟨-, ⟨a, b, d⟩ | ⟨a, d⟩⟩
            all_goals first
              | omega
              | exact h2 d
              | exact h3 d
              | (simp_all; done)))
  · rw [if_neg h1] at q1
    rw [hnot (fun h => h1 h.1)]
    repeat' (first | (apply v_box (zs := [.int .i64 schema, .slice A pl c, .slice A' sl c']); (case hx => rfl); (case hz => rfl); (case hd => rfl); intro b) | apply v_seq | apply v_region | apply v_nil | (apply v_pure; (case hop => first | (apply p_move <;> rfl) | (apply p_ne <;> rfl) | (apply p_assign <;> rfl) | (apply p_fieldAddrB <;> rfl) | fail); (case hd => rfl)) | (apply v_cond; (case hc => rfl); all_goals (intro h; (try simp only [reduceCtorEq, zzz] at h); first | (exfalso; omega) | skip)) | (apply v_callJ (hs := q1); (case ha => rfl); (case hd => rfl)) | (apply v_read; (case hop => (apply r_load1; rfl; (apply Cell.own; (case h => (repeat (exact mhd _))); rfl))); (case hd => rfl)) | fail)
    refine v_ret [] (outsA1 rfl rfl) (by repeat (exact List.nil_sublist _)) ?_
    exact ⟨rfl, rfl⟩
theorem v_copyRow {P : Program} {fn : Func} {n : Nat} {B : Base} {Φ : Value → GH → OH → Prop} {k : List It} {rest : List Oper} {all : Array Oper} {σ : Env} {G : GH} {μ μ' : OH} {d : Nat} {t ty e : TypeId} {pos : String} {af : Array Edge} {agg : Bool} {sz bytes : Nat} {zero : Value} {y x : Operand} {b : Nat} {α : Type} {f : α → List Value} {l : List α} {sv : Value} {vs : List Value} [Ty P t (.slice e)] [Lay P e agg sz bytes zero]
    (hf : ∀ x, (f x).length = sz) (hone : ∀ x, (f x).all Value.oneCell' = true) (hsz : 0 < sz) (hs : Sl G sz (RowR f) sv l) (hvs : vs.length = l.length * sz)
    (hy : Env.ev σ y = some (.slice (some ⟨b, 0, none⟩) l.length l.length)) (hx : Env.ev σ x = some sv) (hb : Has μ b vs e) (hu : Upd b (.cells (rowC f l).toArray e (0, 0)) μ μ') (hsame : vs = rowC f l → μ' = μ) (hd : Nat.blt d n = true)
    (h : Vc P fn n B Φ (.ops all rest :: k) ((d, .int .i64 l.length) :: σ) G μ') : Vc P fn n B Φ (.ops all (⟨some d, .call { callee := .builtin .copy, args := #[y, x], argTypes := #[t, t] }, ty, pos, af, none⟩ :: rest) :: k) σ G μ := by
  obtain ⟨A, c, rfl, hlc, hcm, hsome, hcp⟩ := rowOpen hs
  have hl := rowC_length hf l
  by_cases h0 : l.length = 0
  · have e1 : l = [] := List.eq_nil_of_length_eq_zero h0
    subst e1
    have e2 : vs = [] := List.eq_nil_of_length_eq_zero (by rw [hvs]; simp)
    rw [hsame e2] at h
    exact v_read (m_copy0 (e := e) (agg := agg) (sz := sz) (bytes := bytes) (zero := zero) hy hx) hd h
  · refine v_copy (e := e) (agg := agg) (sz := sz) (bytes := bytes) (zero := zero) (q := l.length) (us := rowC f l) hy hx (Nat.min_self _) (by omega) (rowSrc hf hsz hsome hcp) hb ?_ ?_ ?_ hu hd h
    · rw [List.take_of_length_le (by omega)]; exact rowC_one hone l
    · omega
    · unfold over
      rw [List.take_of_length_le (l := rowC f l) (by omega), List.take_zero, List.drop_of_length_le (by omega)]
      simp
theorem migClone_s {G : GH} {s : St} {v : Value} (hs : StV G s v) (h1 : s.pairs.length ≤ 200) (h2 : s.sess.length ≤ 200) : Con Tryz.prog 70 #[v] G [] (fun r G' μ' => G' = G ∧ ∃ bp bs, r = .agg [.int .i64 s.schema, .slice (some ⟨bp, 0, none⟩) s.pairs.length s.pairs.length, .slice (some ⟨bs, 0, none⟩) s.sess.length s.sess.length].toArray ∧ μ' = [(bs, .cells (rowC Ss.cells s.sess).toArray 146 (0, 0)), (bp, .cells (rowC Pr.cells s.pairs).toArray 144 (0, 0))]) := by
  obtain ⟨A, c, A', c', rfl, hp, hss⟩ := id hs
  obtain ⟨schema, lp, ls⟩ := s
  simp only at *
  have z1 := rowC_length Pr.len lp
  have z2 := rowC_length Ss.len ls
  have q1 := Pr.one
  have q2 := Ss.one
  (refine v_enter Tryz.func70 rfl Tryz.ntmps70 rfl ?_; intro B _)
  repeat' (first | (apply v_box (zs := [.int .i64 schema, .slice A lp.length c, .slice A' ls.length c']); (case hx => rfl); (case hz => rfl); (case hd => rfl); intro b) | (apply v_alloc (d := 2); (case hz => rfl); (case hd => rfl); intro b2) | apply v_seq | apply v_region | apply v_nil | (apply v_pure; (case hop => first | (apply p_move <;> rfl) | (apply p_assign <;> rfl) | (apply p_lenSlice <;> rfl) | (apply p_fieldAddrB <;> rfl) | (apply p_build; (case hz => rfl); (case hv => (simp only [List.map_cons, List.map_nil]; repeat (first | with_reducible exact evs_nil | (apply evs_cons; (case h1 => rfl))))); (case hb => (apply bldL; repeat (first | exact bld_nil | (apply bld_cons; (case hpf => rfl); (case hc => rfl); (case hs => rfl); (case hl => rfl); (case ho => ((repeat (first | with_reducible exact ov_nil | apply ov_cons)); done))))))) | fail); (case hd => rfl)) | (apply v_makeSlice (m := lp.length); (case hx => rfl); (case hy => rfl); (case hb => omega); (case hm => simp only [maxLen]; omega); (case hd => rfl); intro bp vp hvp) | (apply v_makeSlice (m := ls.length); (case hx => rfl); (case hy => rfl); (case hb => omega); (case hm => simp only [maxLen]; omega); (case hd => rfl); intro bs vs hvs) | (apply v_copyRow (hf := Pr.len) (hone := Pr.one) (l := lp); (case hsz => omega); (case hs => exact hp); (case hvs => exact hvp); (case hy => rfl); (case hx => rfl); (case hb => (repeat (exact mhd _))); (case hu => (repeat (exact Upd.here _ _))); (case hsame => intro h; rw [h]); (case hd => rfl)) | (apply v_copyRow (hf := Ss.len) (hone := Ss.one) (l := ls); (case hsz => omega); (case hs => exact hss); (case hvs => exact hvs); (case hy => rfl); (case hx => rfl); (case hb => (repeat (exact mhd _))); (case hu => (repeat (exact Upd.here _ _))); (case hsame => intro h; rw [h]); (case hd => rfl)) | (apply v_read; (case hop => (apply r_load1; rfl; (apply Cell.own; (case h => (repeat (first | exact mhd _ | apply mtl))); rfl))); (case hd => rfl)) | (apply v_store; (case hp => rfl); (case hx => rfl); (case hc => rfl); (case hsz => rfl); (case h1 => rfl); (case hb => (repeat (first | exact mhd _ | apply mtl))); (case hfit => exact nle rfl); (case hov => ((repeat (first | with_reducible exact ov_nil | apply ov_cons)); done)); (case hu => repeat (first | exact Upd.here _ _ | apply Upd.there))) | fail)
  refine v_retM [(bs, .cells (rowC Ss.cells ls).toArray 146 (0, 0)), (bp, .cells (rowC Pr.cells lp).toArray 144 (0, 0))] (outsM_cell (sz := 3) (vs := [.int .i64 schema, .slice (some ⟨bp, 0, none⟩) lp.length lp.length, .slice (some ⟨bs, 0, none⟩) ls.length ls.length]) (e := 32) rfl rfl (by repeat (first | exact mhd _ | apply mtl)) rfl) (by repeat (first | exact List.nil_sublist _ | apply List.Sublist.cons_cons)) ⟨rfl, bp, bs, rfl, rfl⟩
theorem madeP {l : List Pr} (b : Nat) (h : l.length ≤ 200) : GrP (.slice (some ⟨b, 0, none⟩) l.length l.length) l [(b, .cells (rowC Pr.cells l).toArray 144 (0, 0))] :=
  ⟨rowC_length Pr.len l, .inr ⟨b, l.length, [], rfl, by rw [List.append_nil], Nat.le_refl _, by simp only [maxLen]; omega, by rw [List.append_nil]; exact rowC_length Pr.len l⟩⟩
theorem madeS {l : List Ss} (b : Nat) (h : l.length ≤ 200) : GrS (.slice (some ⟨b, 0, none⟩) l.length l.length) l [(b, .cells (rowC Ss.cells l).toArray 146 (0, 0))] :=
  ⟨rowC_length Ss.len l, .inr ⟨b, l.length, [], rfl, by rw [List.append_nil], Nat.le_refl _, by simp only [maxLen]; omega, by rw [List.append_nil]; exact rowC_length Ss.len l⟩⟩
theorem StV.made {G' : GH} {s : St} {bp bs : Nat} (h1 : s.pairs.length ≤ 200) (h2 : s.sess.length ≤ 200) (hp : G' bp = some (.cells (rowC Pr.cells s.pairs).toArray 144 (0, 0))) (hs : G' bs = some (.cells (rowC Ss.cells s.sess).toArray 146 (0, 0))) :
    StV G' s (.agg [.int .i64 s.schema, .slice (some ⟨bp, 0, none⟩) s.pairs.length s.pairs.length, .slice (some ⟨bs, 0, none⟩) s.sess.length s.sess.length].toArray) :=
  ⟨_, _, _, _, rfl, row_of_grow Pr.len (madeP bp h1) (fun b o h => by simp only [List.mem_singleton] at h; cases h; exact hp), row_of_grow Ss.len (madeS bs h2) (fun b o h => by simp only [List.mem_singleton] at h; cases h; exact hs)⟩
def revOf (r : Int) (x : Pr) : Pr := { x with rev := r }
def revK (l : List Pr) (k : Nat) : List Pr := (l.take k).map (revOf 1) ++ l.drop k
theorem revK_next {l : List Pr} {k : Nat} (h : k < l.length) : revK l (k + 1) = (l.take k).map (revOf 1) ++ revOf 1 l[k] :: l.drop (k + 1) := by
  unfold revK
  rw [List.take_succ_eq_append_getElem h, List.map_append, List.append_assoc]
  rfl
theorem revK_at {l : List Pr} {k : Nat} (h : k < l.length) : revK l k = (l.take k).map (revOf 1) ++ l[k] :: l.drop (k + 1) := by
  unfold revK
  rw [List.drop_eq_getElem_cons h]
theorem revK_len {l : List Pr} {k : Nat} (h : k ≤ l.length) : (revK l k).length = l.length := by
  unfold revK
  rw [List.length_append, List.length_map, List.length_take, List.length_drop]; omega
theorem rev1_over (x : Pr) (p q : List Value) (n : Nat) (hp : p.length = n) : over (p ++ (x.cells ++ q)) (n + 2) [.int .i64 1] = p ++ ((revOf 1 x).cells ++ q) := by
  subst hp
  unfold over
  rw [List.take_append, List.take_of_length_le (by omega), List.drop_append, List.drop_of_length_le (by omega)]
  rw [show p.length + 2 - p.length = 2 by omega, show p.length + 2 + [Value.int IntKind.i64 1].length - p.length = 3 by simp only [List.length_singleton]; omega]
  simp [Pr.cells, revOf]
def upS (s : St) : St := ⟨2, s.pairs.map (revOf 1), s.sess⟩
abbrev stZ : Value := .agg #[.int .i64 0, .slice none 0 0, .slice none 0 0]
theorem migUp2_s {G : GH} (hT : TabsG G) {s : St} {v : Value} (hs : StV G s v) (hz : StZ s) (hok : StP s) (h2 : s.schema = 2) : Con Tryz.prog 132 #[v] G [] (Just (.tuple [stZ, .int .i64 12].toArray) G) := by
  have q1 := migCheck_s hT hs hz
  rw [if_pos hok] at q1
  obtain ⟨A, c, A', c', rfl, hp, hss⟩ := id hs
  obtain ⟨schema, lp, ls⟩ := s
  simp only at *
  subst h2
  generalize lp.length = pl at *
  generalize ls.length = sl at *
  apply Con.just
  (refine v_enter Tryz.func132 rfl Tryz.ntmps132 rfl ?_; intro B _)
  repeat' (first | (apply v_box (zs := [.int .i64 2, .slice A pl c, .slice A' sl c']); (case hx => rfl); (case hz => rfl); (case hd => rfl); intro b) | (apply v_alloc (d := 2); (case hz => rfl); (case hd => rfl); intro b2) | apply v_seq | apply v_region | apply v_nil | apply v_skip | (apply v_pure; (case hop => first | (apply p_move <;> rfl) | (apply p_eqs <;> rfl) | (apply p_nes <;> rfl) | (apply p_assign <;> rfl) | (apply p_fieldAddrB <;> rfl) | (apply p_build; (case hz => rfl); (case hv => (simp only [List.map_cons, List.map_nil]; repeat (with_reducible exact evs_nil))); (case hb => (apply bldL; repeat (exact bld_nil)))) | fail); (case hd => rfl)) | (apply v_condT; (case hc => rfl)) | (apply v_condF; (case hc => rfl)) | (apply v_callJ (hs := q1); (case ha => rfl); (case hd => rfl)) | (apply v_read; (case hop => first | (apply r_loadNo; (case hx => rfl); (case h => (repeat (first | exact mhd _ | apply mtl))); (case hd => (repeat (first | with_reducible exact dt_nil | apply dt_here))); (case hn => rfl)) | (apply r_load1; rfl; (apply Cell.own; (case h => (repeat (first | exact mhd _ | apply mtl))); rfl)) | fail); (case hd => rfl)) | (apply v_store; (case hp => rfl); (case hx => rfl); (case hc => rfl); (case hsz => rfl); (case h1 => rfl); (case hb => (repeat (exact mhd _))); (case hfit => exact nle rfl); (case hov => ((repeat (first | with_reducible exact ov_nil | apply ov_cons)); done)); (case hu => repeat (exact Upd.here _ _))) | fail)
  refine v_retM [] (outsM_cell_tmp (sz := 3) (vs := [.int .i64 0, .slice none 0 0, .slice none 0 0]) (e := 32) rfl rfl rfl (by repeat (exact mhd _)) rfl) (List.nil_sublist _) ⟨rfl, rfl⟩
theorem migUp1_s {G : GH} (hT : TabsG G) {s : St} {v : Value} (hs : StV G s v) (hz : StZ s) (hok : StP s) (h1 : s.schema = 1) : Con Tryz.prog 132 #[v] G [] (fun r G' μ' => G' = G ∧ ∃ bp bs, r = .tuple [.agg [.int .i64 2, .slice (some ⟨bp, 0, none⟩) s.pairs.length s.pairs.length, .slice (some ⟨bs, 0, none⟩) s.sess.length s.sess.length].toArray, .int .i64 0].toArray ∧ μ' = [(bs, .cells (rowC Ss.cells s.sess).toArray 146 (0, 0)), (bp, .cells (rowC Pr.cells (upS s).pairs).toArray 144 (0, 0))]) := by
  have q1 := migCheck_s hT hs hz
  rw [if_pos hok] at q1
  obtain ⟨-, -, z3, z4⟩ := hz
  have q2 := migClone_s hs (by omega) (by omega)
  obtain ⟨A, c, A', c', rfl, hp, hss⟩ := id hs
  obtain ⟨schema, lp, ls⟩ := s
  unfold upS
  simp only at *
  subst h1
  (refine v_enter Tryz.func132 rfl Tryz.ntmps132 rfl ?_; intro B _)
  repeat' (first | (apply v_box (zs := [.int .i64 1, .slice A lp.length c, .slice A' ls.length c']); (case hx => rfl); (case hz => rfl); (case hd => rfl); intro b) | (apply v_alloc (d := 2); (case hz => rfl); (case hd => rfl); intro b2) | apply v_seq | apply v_region | apply v_nil | apply v_skip | (apply v_pure; (case hop => first | (apply p_move <;> rfl) | (apply p_nes <;> rfl) | (apply p_eq <;> rfl) | (apply p_assign <;> rfl) | (apply p_fieldAddrB <;> rfl) | fail); (case hd => rfl)) | (apply v_condF; (case hc => rfl)) | (apply v_cond; (case hc => rfl); all_goals (intro h; (try simp only [reduceCtorEq, zzz] at h); first | (exfalso; omega) | skip)) | (apply v_callJ (hs := q1); (case ha => rfl); (case hd => rfl)) | (apply v_read; (case hop => first | (apply r_loadNo; (case hx => rfl); (case h => (repeat (first | exact mhd _ | apply mtl))); (case hd => (repeat (first | with_reducible exact dt_nil | apply dt_here))); (case hn => rfl)) | (apply r_load1; rfl; (apply Cell.own; (case h => (repeat (first | exact mhd _ | apply mtl))); rfl)) | fail); (case hd => rfl)) | fail)
  refine v_call (μ1 := []) rfl q2 (List.Perm.refl _) rfl ?_
  rintro _ G1 ν1 - ⟨hG1, bp, bs, rfl, rfl⟩
  subst hG1
  repeat' (first | (apply v_alloc (d := 5); (case hz => rfl); (case hd => rfl); intro b5) | apply v_seq | apply v_region | apply v_nil | apply v_block | (apply v_pure; (case hop => first | (apply p_move <;> rfl) | (apply p_lenSlice <;> rfl) | (apply p_fieldAddrB <;> rfl) | fail); (case hd => rfl)) | (apply v_read; (case hop => (apply r_load1; rfl; (apply Cell.own; (case h => (repeat (exact mhd _))); rfl))); (case hd => rfl)) | (apply v_store; (case hp => rfl); (case hx => rfl); (case hc => rfl); (case hsz => rfl); (case h1 => rfl); (case hb => (repeat (exact mhd _))); (case hfit => exact nle rfl); (case hov => ((repeat (first | with_reducible exact ov_nil | apply ov_cons)); done)); (case hu => repeat (exact Upd.here _ _))) | fail)
  refine v_perm (ν := [(bp, .cells (rowC Pr.cells (revK lp 0)).toArray 144 (0, 0)), (bs, .cells (rowC Ss.cells ls).toArray 146 (0, 0)), (b5, .cells [.int .i64 2, .slice (some ⟨bp, 0, none⟩) lp.length lp.length, .slice (some ⟨bs, 0, none⟩) ls.length ls.length].toArray 32 (0, 0)), (b2, .cells [.int .i64 0, .slice none 0 0, .slice none 0 0].toArray 32 (0, 0)), (b, .cells [.int .i64 1, .slice A lp.length c, .slice A' ls.length c'].toArray 32 (0, 0))]) (by apply perm_of_count; intro p; simp only [List.append_eq, List.countP_append, List.countP_cons, List.countP_nil, Nat.zero_add, Nat.add_zero]; try ac_rfl) ?_
  refine v_loop [23, 22, 5, 2] (fun us G' μ' => G' = G1 ∧ ∃ k : Nat, k ≤ lp.length ∧ us = [Value.int .i64 (k : Nat), .int .i64 (lp.length : Nat), .pointer (some ⟨b5, 0, none⟩), .pointer (some ⟨b2, 0, none⟩)] ∧ μ' = [(bp, .cells (rowC Pr.cells (revK lp k)).toArray 144 (0, 0)), (bs, .cells (rowC Ss.cells ls).toArray 146 (0, 0)), (b5, .cells [.int .i64 2, .slice (some ⟨bp, 0, none⟩) lp.length lp.length, .slice (some ⟨bs, 0, none⟩) ls.length ls.length].toArray 32 (0, 0)), (b2, .cells [.int .i64 0, .slice none 0 0, .slice none 0 0].toArray 32 (0, 0)), (b, .cells [.int .i64 1, .slice A lp.length c, .slice A' ls.length c'].toArray 32 (0, 0))]) (fun us => lp.length - (headI us).toNat) rfl ⟨rfl, 0, by omega, rfl, rfl⟩ ?_
  rintro us G' _ ⟨hG', k, hk, rfl, rfl⟩
  subst hG'
  by_cases hlt : k < lp.length
  · have hov : over (rowC Pr.cells (revK lp k)) (k * 3 + 2) [.int .i64 1] = rowC Pr.cells (revK lp (k + 1)) := by
      rw [revK_at hlt, revK_next hlt, rowC_append, rowC_append, rowC_cons, rowC_cons]
      exact rev1_over _ _ _ _ (by rw [rowC_length Pr.len, List.length_map, List.length_take, Nat.min_eq_left (by omega)])
    have hfit : k * 3 + 2 + 1 ≤ (rowC Pr.cells (revK lp k)).length := by
      rw [rowC_length Pr.len, revK_len hk]
      omega
    repeat' (first | (apply v_pure; (case hop => apply p_idxOwn2; (case hx => rfl); (case hi => rfl); (case h => omega)); (case hd => rfl)) | apply v_seq | apply v_region | apply v_nil | apply v_skip | apply v_block | apply v_blk | (apply v_pure; (case hop => first | (apply p_move <;> rfl) | (apply p_lt <;> rfl) | (apply p_assign <;> rfl) | (apply p_fieldAddrB <;> rfl) | (apply p_add; (case hx => rfl); (case hy => rfl); (case h => omega)) | fail); (case hd => rfl)) | (apply v_cond; (case hc => rfl); all_goals (intro h; (try simp only [reduceCtorEq, zzz] at h); first | (exfalso; omega) | skip)) | (apply v_store; (case hp => rfl); (case hx => rfl); (case hc => rfl); (case hsz => rfl); (case h1 => rfl); (case hb => (repeat (exact mhd _))); (case hfit => exact hfit); (case hov => exact hov); (case hu => (repeat (exact Upd.here _ _)))) | (apply v_read; (case hop => (apply r_load1; rfl; (apply Cell.own; (case h => (repeat (first | exact mhd _ | apply mtl))); rfl))); (case hd => rfl)) | fail)
    exact v_again rfl ⟨rfl, k + 1, by omega, rfl, rfl⟩ (by simp [headI]; omega)
  · obtain rfl : k = lp.length := by omega
    have e1 : revK lp lp.length = lp.map (revOf 1) := by unfold revK; simp
    rw [e1]
    repeat' (first | apply v_seq | apply v_region | apply v_nil | (apply v_exit; (case hp => rfl)) | (apply v_pure; (case hop => first | (apply p_lt <;> rfl) | (apply p_assign <;> rfl) | fail); (case hd => rfl)) | (apply v_cond; (case hc => rfl); all_goals (intro h; (try simp only [reduceCtorEq, zzz] at h); first | (exfalso; omega) | skip)) | (apply v_read; (case hop => (apply r_loadNo; (case hx => rfl); (case h => (repeat (first | exact mhd _ | apply mtl))); (case hd => (repeat (first | with_reducible exact dt_nil | apply dt_here))); (case hn => rfl))); (case hd => rfl)) | (apply v_store; (case hp => rfl); (case hx => rfl); (case hc => rfl); (case hsz => rfl); (case h1 => rfl); (case hb => (repeat (first | exact mhd _ | apply mtl))); (case hfit => exact nle rfl); (case hov => ((repeat (first | with_reducible exact ov_nil | apply ov_cons)); done)); (case hu => repeat (first | exact Upd.here _ _ | apply Upd.there))) | fail)
    refine v_perm (ν := [(bs, .cells (rowC Ss.cells ls).toArray 146 (0, 0)), (bp, .cells (rowC Pr.cells (lp.map (revOf 1))).toArray 144 (0, 0)), (b5, .cells [.int .i64 2, .slice (some ⟨bp, 0, none⟩) lp.length lp.length, .slice (some ⟨bs, 0, none⟩) ls.length ls.length].toArray 32 (0, 0)), (b2, .cells [.int .i64 2, .slice (some ⟨bp, 0, none⟩) lp.length lp.length, .slice (some ⟨bs, 0, none⟩) ls.length ls.length].toArray 32 (0, 0)), (b, .cells [.int .i64 1, .slice A lp.length c, .slice A' ls.length c'].toArray 32 (0, 0))]) (by apply perm_of_count; intro p; simp only [List.append_eq, List.countP_append, List.countP_cons, List.countP_nil, Nat.zero_add, Nat.add_zero]; try ac_rfl) ?_
    refine v_retM [(bs, .cells (rowC Ss.cells ls).toArray 146 (0, 0)), (bp, .cells (rowC Pr.cells (lp.map (revOf 1))).toArray 144 (0, 0))] (outsM_cell_tmp (sz := 3) (vs := [.int .i64 2, .slice (some ⟨bp, 0, none⟩) lp.length lp.length, .slice (some ⟨bs, 0, none⟩) ls.length ls.length]) (e := 32) rfl rfl rfl (by repeat (first | exact mhd _ | apply mtl)) rfl) (by repeat (first | exact List.nil_sublist _ | apply List.Sublist.cons_cons)) ⟨rfl, bp, bs, rfl, rfl⟩
theorem ownB (k : Int) : decide (¬ band (cmdFields k).1 1 = 0) = decide (2 ≤ k ∧ k ≤ 5) := by
  rw [decide_eq_decide]
  unfold cmdFields
  by_cases h1 : k = 1 ∨ k = 6
  · rw [if_pos h1]; exact ⟨fun h => absurd band_0_1 h, fun h => absurd h (by omega)⟩
  rw [if_neg h1]
  by_cases h2 : k = 2
  · rw [if_pos h2]; exact ⟨fun _ => by omega, fun _ h => absurd (band_11_1.symm.trans h) (by decide)⟩
  rw [if_neg h2]
  by_cases h3 : k = 3 ∨ k = 4
  · rw [if_pos h3]; exact ⟨fun _ => by omega, fun _ h => absurd (band_3_1.symm.trans h) (by decide)⟩
  rw [if_neg h3]
  by_cases h4 : k = 5
  · rw [if_pos h4]; exact ⟨fun _ => by omega, fun _ h => absurd (band_15_1.symm.trans h) (by decide)⟩
  rw [if_neg h4]
  by_cases h5 : k = 7 ∨ k = 8
  · rw [if_pos h5]; exact ⟨fun h => absurd band_16_1 h, fun h => absurd h (by omega)⟩
  rw [if_neg h5]; exact ⟨fun h => absurd band_0_1 h, fun h => absurd h (by omega)⟩
theorem cmdOwned_s (G : GH) (c : Cm) : Con Tryz.prog 130 #[.agg c.cells.toArray] G [] (Just (.bool (decide (2 ≤ c.kind ∧ c.kind ≤ 5))) G) := by
  have q := fields_s G c.kind
  have hb := ownB c.kind
  apply Con.just
  obtain ⟨kind, client, seq, key, val, old, node⟩ := c
  simp only at *
  generalize cmdFields kind = f at *
  rw [← hb]
  (refine v_enter Tryz.func130 rfl Tryz.ntmps130 rfl ?_; intro B _)
  repeat' (first | (apply v_box (zs := Cm.cells ⟨kind, client, seq, key, val, old, node⟩); (case hx => rfl); (case hz => rfl); (case hd => rfl); intro b) | apply v_seq | apply v_region | apply v_nil | (apply v_pure; (case hop => first | (apply p_move <;> rfl) | (apply p_ne <;> rfl) | (apply p_assign <;> rfl) | (apply p_fieldAddrB <;> rfl) | (apply p_extract0 <;> rfl) | (apply p_extract1 <;> rfl) | (apply p_and64 <;> rfl) | fail); (case hd => rfl)) | (apply v_callJ (hs := q); (case ha => rfl); (case hd => rfl)) | (apply v_read; (case hop => (apply r_load1; rfl; (apply Cell.own; (case h => (repeat (exact mhd _))); rfl))); (case hd => rfl)) | fail)
  all_goals
    (refine v_ret [] (outsA1 rfl rfl) (by repeat (exact List.nil_sublist _)) ?_
     refine ⟨?_, rfl⟩
     (try simp only [dec_eq])
     first
       | rfl
       | (simp; done)
       | (simp_all; done))
def zeroSt : St := ⟨0, [], []⟩
theorem StV.zero (G : GH) : StV G zeroSt stZ := by
  refine ⟨none, 0, none, 0, rfl, ?_, ?_⟩
  · exact row_of_grow Pr.len (Grow.nil 144 3) (fun b o h => by cases h)
  · exact row_of_grow Ss.len (Grow.nil 146 8) (fun b o h => by cases h)
theorem StP.walk {s : St} (h : StP s) (hz : StZ s) : StW s := by
  obtain ⟨h1, h2⟩ := h
  obtain ⟨z1, z2, z3, z4⟩ := hz
  refine ⟨?_, z1, z3, ?_, riseG_pw.1 (adjS_rise h1.1), by omega⟩
  · rcases h2 with ⟨-, -, h⟩ | ⟨-, h⟩
    · exact riseG_pw.1 (adj_rise h.2.1)
    · exact riseG_pw.1 (adj_rise h.2.1)
  · intro x hx
    rcases h2 with ⟨-, -, h⟩ | ⟨-, h⟩
    · have := (h.2.2 x hx).2; omega
    · have := (h.2.2 x hx).2; omega
noncomputable def applyS (s : St) (c : Cm) : St × An × Int :=
  if cmdI c ≠ 0 then (zeroSt, zA, cmdI c)
  else if 2 ≤ c.kind ∧ c.kind ≤ 5 then ((clientS s c).1, (clientS s c).2, 0)
  else if c.kind = 6 ∧ s.schema = 1 then (upS s, zA, 0)
  else (s, zA, 0)
theorem TabsG.up {G G' : GH} (hle : GH.le G G') (h : TabsG G) : TabsG G' := fun w hw => h w fun b o hb => hw b o (hle b o hb)
theorem apply_s {G : GH} (hT : TabsG G) {s : St} {v : Value} (c : Cm) (hs : StV G s v) (hz : StZ s) (hok : StP s) (hc : c.ok) (hcw : CmW c) :
    Con Tryz.prog 71 #[v, .agg c.cells.toArray] G [] (fun r G' μ' => μ' = [] ∧ ∃ v', r = .tuple [v', .agg (applyS s c).2.1.cells.toArray, .int .i64 (applyS s c).2.2].toArray ∧ StV G' (applyS s c).1 v') := by
  have qk := migCheck_s hT hs hz
  rw [if_pos hok] at qk
  have qc := cmdCheck_s hT c hc
  obtain ⟨A, c0, A', c', rfl, hp, hss⟩ := id hs
  have hw := hok.walk hz
  unfold applyS
  have hcl := fun G' v' (h : StV G' s v') => client_s c h hw hcw
  have hcn := fun G' v' (h : StV G' s v') => migClone_s (G := G') h (by have := hz.2.2.1; omega) (by have := hz.2.2.2; omega)
  have hu1 := fun G' (hT : TabsG G') v' (h : StV G' s v') => migUp1_s hT h hz hok
  have hu2 := fun G' (hT : TabsG G') v' (h : StV G' s v') => migUp2_s hT h hz hok
  have how := fun G' => cmdOwned_s G' c
  obtain ⟨kind, cl, seq, key, val, old, node⟩ := c
  generalize cmdI ⟨kind, cl, seq, key, val, old, node⟩ = ci at *
  generalize clientS s ⟨kind, cl, seq, key, val, old, node⟩ = cs at *
  simp only at *
  (refine v_enter Tryz.func71 rfl Tryz.ntmps71 rfl ?_; intro B _)
  repeat' (first | (apply v_box (d := 2) (zs := [.int .i64 s.schema, .slice A s.pairs.length c0, .slice A' s.sess.length c']); (case hx => rfl); (case hz => rfl); (case hd => rfl); intro b2) | (apply v_box (d := 3) (zs := (Cm.cells ⟨kind, cl, seq, key, val, old, node⟩)); (case hx => rfl); (case hz => rfl); (case hd => rfl); intro b3) | (apply v_alloc (d := 4); (case hz => rfl); (case hd => rfl); intro b4) | (apply v_alloc (d := 5); (case hz => rfl); (case hd => rfl); intro b5) | (apply v_read; (case hop => (apply r_loadNo; (case hx => rfl); (case h => repeat (first | exact mhd _ | apply mtl)); (case hd => rfl); (case hn => rfl))); (case hd => rfl)) | apply v_seq | apply v_region | apply v_nil | apply v_skip | (apply v_pure; (case hop => first | (apply p_move <;> rfl) | (apply p_nes <;> rfl) | (apply p_assign <;> rfl) | fail); (case hd => rfl)) | (apply v_condF; (case hc => rfl)) | (apply v_callJ (hs := qk); (case ha => rfl); (case hd => rfl)) | fail)
  refine v_call (μ1 := []) rfl qc (List.Perm.refl _) rfl ?_
  rintro _ G1 _ hle1 ⟨rfl, rfl⟩
  have hT1 := hT.up hle1
  by_cases hci : ci = 0
  · rw [if_neg (by simp [hci])]
    subst hci
    repeat' (first | (apply v_read; (case hop => (apply r_loadNo; (case hx => rfl); (case h => repeat (first | exact mhd _ | apply mtl)); (case hd => rfl); (case hn => rfl))); (case hd => rfl)) | apply v_seq | apply v_region | apply v_nil | apply v_skip | (apply v_pure; (case hop => first | (apply p_move <;> rfl) | (apply p_nes <;> rfl) | (apply p_assign <;> rfl) | fail); (case hd => rfl)) | (apply v_condF; (case hc => rfl)) | fail)
    refine v_call (μ1 := []) rfl (hcn G1 _ (hs.up hle1)) (List.Perm.refl _) rfl ?_
    rintro _ G2 ν2 - ⟨hG2, bp, bs, rfl, rfl⟩
    subst hG2
    refine v_frz [(bs, .cells (rowC Ss.cells s.sess).toArray 146 (0, 0)), (bp, .cells (rowC Pr.cells s.pairs).toArray 144 (0, 0))] (PickA.here _) ?_
    intro G3 hle3 hG3
    have hs3 : StV G3 s _ := StV.made (s := s) (bp := bp) (bs := bs) (by have := hz.2.2.1; omega) (by have := hz.2.2.2; omega) (hG3 _ _ (by (repeat (first | exact mhd _ | apply mtl)))) (hG3 _ _ (by (repeat (exact mhd _))))
    have hT3 := hT1.up hle3
    have how3 := how G3
    repeat' (first | (apply v_read; (case hop => (apply r_loadNo; (case hx => rfl); (case h => repeat (first | exact mhd _ | apply mtl)); (case hd => rfl); (case hn => rfl))); (case hd => rfl)) | apply v_seq | apply v_region | apply v_nil | apply v_skip | (apply v_cond; (case hc => rfl); all_goals (intro h; (try simp only [reduceCtorEq, zzz] at h))) | (apply v_callJ (hs := how3); (case ha => rfl); (case hd => rfl)) | (apply v_store; (case hp => rfl); (case hx => rfl); (case hc => rfl); (case hsz => rfl); (case h1 => rfl); (case hb => (repeat (first | exact mhd _ | apply mtl))); (case hfit => exact nle rfl); (case hov => ((repeat (first | with_reducible exact ov_nil | apply ov_cons)); done)); (case hu => repeat (first | exact Upd.here _ _ | apply Upd.there))) | fail)
    · rw [if_pos (by assumption)]
      refine v_call (μ1 := []) rfl (hcl G3 _ hs3) (List.Perm.refl _) rfl ?_
      obtain ⟨cs1, ⟨ac, aq, ae, af, av, ar⟩⟩ := cs
      rintro _ G4 _ - ⟨hle4, rfl, v4, rfl, hs4⟩
      obtain ⟨A4, c4, A4', c4', rfl, -, -⟩ := id hs4
      repeat' (first | (apply v_alloc (d := 9); (case hz => rfl); (case hd => rfl); intro b9) | (apply v_alloc (d := 10); (case hz => rfl); (case hd => rfl); intro b10) | apply v_seq | apply v_nil | (apply v_pure; (case hop => first | (apply p_move <;> rfl) | (apply p_extract0 <;> rfl) | (apply p_extract1 <;> rfl) | fail); (case hd => rfl)) | (apply v_store; (case hp => rfl); (case hx => rfl); (case hc => rfl); (case hsz => rfl); (case h1 => rfl); (case hb => (repeat (first | exact mhd _ | apply mtl))); (case hfit => exact nle rfl); (case hov => ((repeat (first | with_reducible exact ov_nil | apply ov_cons)); done)); (case hu => repeat (first | exact Upd.here _ _ | apply Upd.there))) | fail)
      refine d_start [(b9, .cells [.int .i64 cs1.schema, .slice A4 cs1.pairs.length c4, .slice A4' cs1.sess.length c4'].toArray 32 (0, 0)), (b10, .cells [.int .i64 ac, .int .i64 aq, .int .i64 ae, .bool af, .string av, .int .i64 ar].toArray 40 (0, 0))] (by kernel_rfl) (by kernel_rfl) (by kernel_rfl) (by intro e he; (simp only [List.mem_cons, List.not_mem_nil, or_false] at he; rcases he with rfl | rfl <;> simp; done)) ?_
      all_goals (apply dtk 0; (case hi => rfl); (case hop => first | (apply r_loadNo; (case hx => rfl); (case h => (repeat (exact mhd _))); (case hd => (repeat (first | with_reducible exact dt_nil | apply dt_here))); (case hn => rfl)) | (apply r_load1; rfl; (apply Cell.own; (case h => (repeat (fail))); rfl)) | (apply r_loadN; rfl; (apply CellsAt.own; (case h => (repeat (fail)))); rfl)); (case hq => kernel_rfl))
      all_goals (apply dtk 1; (case hi => rfl); (case hop => first | (apply r_loadNo; (case hx => rfl); (case h => (repeat (first | exact mhd _ | apply mtl))); (case hd => (repeat (first | with_reducible exact dt_nil | apply dt_here))); (case hn => rfl)) | (apply r_load1; rfl; (apply Cell.own; (case h => (repeat (fail))); rfl)) | (apply r_loadN; rfl; (apply CellsAt.own; (case h => (repeat (fail)))); rfl)); (case hq => kernel_rfl))
      all_goals (apply d_store 2; (case hi => rfl); (case hr => kernel_rfl); (case hL => infer_instance); (case hp => rfl); (case hx => rfl); (case hc => rfl); (case hsz => rfl); (case h1 => rfl); (case hb => (repeat (first | exact mhd _ | apply mtl))); (case hfit => exact nle rfl); (case hov => ((repeat (first | with_reducible exact ov_nil | apply ov_cons)); done)); (case hu => repeat (first | exact Upd.here _ _ | apply Upd.there)); (case hν' => intro e he; (simp only [List.mem_cons, List.not_mem_nil, or_false] at he; rcases he with rfl | rfl <;> simp; done)))
      all_goals (apply d_store 3; (case hi => rfl); (case hr => kernel_rfl); (case hL => infer_instance); (case hp => rfl); (case hx => rfl); (case hc => rfl); (case hsz => rfl); (case h1 => rfl); (case hb => (repeat (first | exact mhd _ | apply mtl))); (case hfit => exact nle rfl); (case hov => ((repeat (first | with_reducible exact ov_nil | apply ov_cons)); done)); (case hu => repeat (first | exact Upd.here _ _ | apply Upd.there)); (case hν' => intro e he; (simp only [List.mem_cons, List.not_mem_nil, or_false] at he; rcases he with rfl | rfl <;> simp; done)))
      all_goals (apply dtk 4; (case hi => rfl); (case hop => (apply prd; apply p_assign <;> rfl)); (case hq => kernel_rfl))
      all_goals (apply d_done; (case hr => kernel_rfl))
      repeat' (fail)
      refine v_retM [] (outsM_cct (sz0 := 3) (vs0 := [.int .i64 cs1.schema, .slice A4 cs1.pairs.length c4, .slice A4' cs1.sess.length c4']) (e0 := 32) (sz1 := 6) (vs1 := [.int .i64 ac, .int .i64 aq, .int .i64 ae, .bool af, .string av, .int .i64 ar]) (e1 := 40) rfl rfl (by repeat (first | exact mhd _ | apply mtl)) rfl rfl (by repeat (first | exact mhd _ | apply mtl)) rfl rfl) (List.nil_sublist _) ⟨rfl, _, rfl, hs4⟩
    · rw [if_neg (by assumption)]
      by_cases h1 : s.schema = 1
      · refine v_call (μ1 := []) rfl (hu1 G3 hT3 _ hs3 h1) (List.Perm.refl _) rfl ?_
        rintro _ G4 ν4 - ⟨hG4, bp', bs', rfl, rfl⟩
        subst hG4
        refine v_frz [(bs', .cells (rowC Ss.cells s.sess).toArray 146 (0, 0)), (bp', .cells (rowC Pr.cells (upS s).pairs).toArray 144 (0, 0))] (PickA.here _) ?_
        intro G5 hle5 hG5
        have el : (upS s).pairs.length = s.pairs.length := List.length_map ..
        have hs5 := StV.made (G' := G5) (s := upS s) (bp := bp') (bs := bs') (by rw [el]; have := hz.2.2.1; omega) (by have := hz.2.2.2; show s.sess.length ≤ 200; omega) (hG5 _ _ (by (repeat (first | exact mhd _ | apply mtl)))) (hG5 _ _ (by (repeat (exact mhd _))))
        rw [el] at hs5
        have hs3' := hs3.up hle5
        repeat' (first | (apply v_alloc (d := 11); (case hz => rfl); (case hd => rfl); intro b11) | (apply v_read; (case hop => (apply r_loadNo; (case hx => rfl); (case h => repeat (first | exact mhd _ | apply mtl)); (case hd => rfl); (case hn => rfl))); (case hd => rfl)) | apply v_seq | apply v_region | apply v_nil | apply v_skip | (apply v_take; (case hg => rfl)) | (apply v_pass; (case hg => rfl); (case hn => rfl); (case hd => rfl)) | (apply v_pure; (case hop => first | (apply p_move <;> rfl) | (apply p_eqs <;> rfl) | (apply p_eq <;> rfl) | (apply p_assign <;> rfl) | (apply p_pickT <;> rfl) | (apply p_pickF <;> rfl) | (apply p_fieldAddrB <;> rfl) | (apply p_extract0 <;> rfl) | (apply p_extract1 <;> rfl) | (apply p_build; (case hz => rfl); (case hv => (simp only [List.map_cons, List.map_nil]; repeat (with_reducible exact evs_nil))); (case hb => (apply bldL; repeat (exact bld_nil)))) | fail); (case hd => rfl)) | (apply v_condT; (case hc => rfl)) | (apply v_condF; (case hc => rfl)) | (apply v_guardB; (case h1 => rfl); (case h2 => rfl); all_goals (intro h; (try simp only [reduceCtorEq, zzz] at h))) | (apply v_read; (case hop => (apply r_load1; rfl; (apply Cell.own; (case h => (repeat (first | exact mhd _ | apply mtl))); rfl))); (case hd => rfl)) | (apply v_store; (case hp => rfl); (case hx => rfl); (case hc => rfl); (case hsz => rfl); (case h1 => rfl); (case hb => (repeat (first | exact mhd _ | apply mtl))); (case hfit => exact nle rfl); (case hov => (first | ((repeat (first | with_reducible exact ov_nil | apply ov_cons)); done) | rfl)); (case hu => repeat (first | exact Upd.here _ _ | apply Upd.there))) | fail)
        · rw [if_pos ⟨by assumption, h1⟩]
          refine v_retM [] (outsM_cct (sz0 := 3) (vs0 := [.int .i64 2, .slice (some ⟨bp', 0, none⟩) s.pairs.length s.pairs.length, .slice (some ⟨bs', 0, none⟩) s.sess.length s.sess.length]) (e0 := 32) (sz1 := 6) (vs1 := zA.cells) (e1 := 40) rfl rfl (by repeat (first | exact mhd _ | apply mtl)) rfl rfl (by repeat (first | exact mhd _ | apply mtl)) rfl rfl) (List.nil_sublist _) ⟨rfl, _, rfl, hs5⟩
        · rw [if_neg (fun h => absurd h.1 (by assumption))]
          refine v_retM [] (outsM_cct (sz0 := 3) (vs0 := [.int .i64 s.schema, .slice (some ⟨bp, 0, none⟩) s.pairs.length s.pairs.length, .slice (some ⟨bs, 0, none⟩) s.sess.length s.sess.length]) (e0 := 32) (sz1 := 6) (vs1 := zA.cells) (e1 := 40) rfl rfl (by repeat (first | exact mhd _ | apply mtl)) rfl rfl (by repeat (first | exact mhd _ | apply mtl)) rfl rfl) (List.nil_sublist _) ⟨rfl, _, rfl, hs3'⟩
      · rw [if_neg (fun h => h1 h.2)]
        have h2 : s.schema = 2 := by
          rcases hok.2 with h | h
          · exact absurd h.1 h1
          · exact h.1
        refine v_call (μ1 := []) rfl (hu2 G3 hT3 _ hs3 h2) (List.Perm.refl _) rfl ?_
        rintro _ G4 ν4 - ⟨rfl, hG4, rfl⟩
        try subst hG4
        repeat' (first | (apply v_alloc (d := 11); (case hz => rfl); (case hd => rfl); intro b11) | (apply v_read; (case hop => (apply r_loadNo; (case hx => rfl); (case h => repeat (first | exact mhd _ | apply mtl)); (case hd => rfl); (case hn => rfl))); (case hd => rfl)) | apply v_seq | apply v_region | apply v_nil | apply v_skip | (apply v_take; (case hg => rfl)) | (apply v_pass; (case hg => rfl); (case hn => rfl); (case hd => rfl)) | (apply v_pure; (case hop => first | (apply p_move <;> rfl) | (apply p_eq <;> rfl) | (apply p_assign <;> rfl) | (apply p_pickT <;> rfl) | (apply p_pickF <;> rfl) | (apply p_fieldAddrB <;> rfl) | (apply p_extract0 <;> rfl) | (apply p_extract1 <;> rfl) | (apply p_build; (case hz => rfl); (case hv => (simp only [List.map_cons, List.map_nil]; repeat (with_reducible exact evs_nil))); (case hb => (apply bldL; repeat (exact bld_nil)))) | fail); (case hd => rfl)) | (apply v_condF; (case hc => rfl)) | (apply v_cond; (case hc => rfl); all_goals (intro h; (try simp only [reduceCtorEq, zzz] at h); first | (exfalso; omega) | skip)) | (apply v_guardB; (case h1 => rfl); (case h2 => rfl); all_goals (intro h; (try simp only [reduceCtorEq, zzz] at h))) | (apply v_read; (case hop => (apply r_load1; rfl; (apply Cell.own; (case h => (repeat (first | exact mhd _ | apply mtl))); rfl))); (case hd => rfl)) | (apply v_store; (case hp => rfl); (case hx => rfl); (case hc => rfl); (case hsz => rfl); (case h1 => rfl); (case hb => (repeat (first | exact mhd _ | apply mtl))); (case hfit => exact nle rfl); (case hov => (first | ((repeat (first | with_reducible exact ov_nil | apply ov_cons)); done) | rfl)); (case hu => repeat (first | exact Upd.here _ _ | apply Upd.there))) | fail)
        all_goals
          refine v_retM [] (outsM_cct (sz0 := 3) (vs0 := [.int .i64 s.schema, .slice (some ⟨bp, 0, none⟩) s.pairs.length s.pairs.length, .slice (some ⟨bs, 0, none⟩) s.sess.length s.sess.length]) (e0 := 32) (sz1 := 6) (vs1 := zA.cells) (e1 := 40) rfl rfl (by repeat (first | exact mhd _ | apply mtl)) rfl rfl (by repeat (first | exact mhd _ | apply mtl)) rfl rfl) (List.nil_sublist _) ⟨rfl, _, rfl, hs3⟩
  · rw [if_pos (by simp [hci])]
    repeat' (first | apply v_seq | apply v_region | apply v_nil | (apply v_pure; (case hop => first | (apply p_move <;> rfl) | (apply p_ne <;> rfl) | (apply p_assign <;> rfl) | (apply p_build; (case hz => rfl); (case hv => (simp only [List.map_cons, List.map_nil]; repeat (with_reducible exact evs_nil))); (case hb => (apply bldL; repeat (exact bld_nil)))) | fail); (case hd => rfl)) | (apply v_cond; (case hc => rfl); all_goals (intro h; (try simp only [reduceCtorEq, zzz] at h); first | (exfalso; omega) | skip)) | (apply v_store; (case hp => rfl); (case hx => rfl); (case hc => rfl); (case hsz => rfl); (case h1 => rfl); (case hb => (repeat (first | exact mhd _ | apply mtl))); (case hfit => exact nle rfl); (case hov => ((repeat (first | with_reducible exact ov_nil | apply ov_cons)); done)); (case hu => repeat (first | exact Upd.here _ _ | apply Upd.there))) | fail)
    refine v_retM [] (outsM_cct (sz0 := 3) (vs0 := [.int .i64 0, .slice none 0 0, .slice none 0 0]) (e0 := 32) (sz1 := 6) (vs1 := zA.cells) (e1 := 40) rfl rfl (by repeat (first | exact mhd _ | apply mtl)) rfl rfl (by repeat (exact mhd _)) rfl rfl) (List.nil_sublist _) ⟨rfl, _, rfl, StV.zero _⟩
def RevOk (z : Int) (x : Pr) : Prop := (z = 1 ∧ x.rev = 0) ∨ (z = 2 ∧ 1 ≤ x.rev ∧ x.rev ≤ 4294967296)
def PsOk (z : Int) (l : List Pr) : Prop := l.length ≤ 64 ∧ RiseW ksP l ∧ ∀ x ∈ l, PrOk x ∧ RevOk z x
theorem stP_iff {s : St} : StP s ↔ SesP s.sess ∧ (s.schema = 1 ∨ s.schema = 2) ∧ PsOk s.schema s.pairs ∧ (s.schema = 1 → s.sess.any revS = false) := by
  obtain ⟨z, lp, ls⟩ := s
  unfold StP PsOk OneP TwoP
  simp only
  constructor
  · rintro ⟨h1, ⟨rfl, h2, h3, h4, h5⟩ | ⟨rfl, h3, h4, h5⟩⟩
    · exact ⟨h1, .inl rfl, ⟨h3, riseG_pw.1 (adj_rise h4), fun x hx => ⟨(h5 x hx).1, .inl ⟨rfl, (h5 x hx).2⟩⟩⟩, fun _ => h2⟩
    · exact ⟨h1, .inr rfl, ⟨h3, riseG_pw.1 (adj_rise h4), fun x hx => ⟨(h5 x hx).1, .inr ⟨rfl, (h5 x hx).2⟩⟩⟩, fun h => absurd h (by omega)⟩
  · rintro ⟨h1, rfl | rfl, ⟨h3, h4, h5⟩, h2⟩
    · refine ⟨h1, .inl ⟨rfl, h2 rfl, h3, rise_adj (riseG_pw.2 h4), fun x hx => ⟨(h5 x hx).1, ?_⟩⟩⟩
      rcases (h5 x hx).2 with h | h
      · exact h.2
      · exact absurd h.1 (by omega)
    · refine ⟨h1, .inr ⟨rfl, h3, rise_adj (riseG_pw.2 h4), fun x hx => ⟨(h5 x hx).1, ?_⟩⟩⟩
      rcases (h5 x hx).2 with h | h
      · exact absurd h.1 (by omega)
      · exact h.2
theorem keyB_size {s : ByteArray} (h : keyB s = true) : s.size ≤ 24 := by
  unfold keyB at h
  simp only [Bool.and_eq_true, decide_eq_true_eq] at h
  exact h.1.2
theorem valB_size {s : ByteArray} (h : valB s = true) : s.size ≤ 48 := by
  unfold valB at h
  simp only [Bool.and_eq_true, decide_eq_true_eq] at h
  exact h.1.1
theorem valB_empty : valB ByteArray.empty = true := by
  unfold valB
  have h0 : ByteArray.empty.size = 0 := rfl
  simp only [Bool.and_eq_true, decide_eq_true_eq, h0]
  refine ⟨⟨by omega, by unfold badR; omega⟩, fun i hi => by omega⟩
theorem ses_few : ∀ (l : List Ss) (a : Int), RiseW ksS l → (∀ x ∈ l, a ≤ x.client ∧ x.client ≤ 8) → a ≤ 9 → (l.length : Int) ≤ 9 - a
  | [], a, _, _, ha => by simp; omega
  | x :: l, a, h, hx, ha => by
    have h1 := List.pairwise_cons.1 h
    have h2 := hx x List.mem_cons_self
    have := ses_few l (x.client + 1) h1.2 (fun y hy => ⟨by have := h1.1 y hy; simp only [ksS] at this; omega, (hx y (List.mem_cons_of_mem _ hy)).2⟩) (by omega)
    simp only [List.length_cons]
    omega
theorem sesP_few {l : List Ss} (h : SesP l) : l.length ≤ 8 := by
  have := ses_few l 1 (riseG_pw.1 (adjS_rise h.1)) (fun x hx => by
    obtain ⟨h1, h2, h3⟩ := h.2 x hx
    have h4 := (ansI_zero.1 h3).1.1
    omega) (by omega)
  omega
theorem StP.small {s : St} (h : StP s) : StZ s := by
  obtain ⟨h1, h2, ⟨h3, h4, h5⟩, h6⟩ := stP_iff.1 h
  refine ⟨fun x hx => ?_, fun x hx => ?_, by omega, by have := sesP_few h1; omega⟩
  · have := (h5 x hx).1
    have a := keyB_size this.1
    have b := valB_size this.2
    omega
  · have := valB_size (ansI_zero.1 (h1.2 x hx).2.2).2
    omega
theorem withG_ok {z : Int} {l : List Pr} {p : Pr} (h : PsOk z l) (hp : PrOk p) (hr : RevOk z p) (hroom : roomB l (kn p.key) = true) : PsOk z (withG ksP l p) := by
  obtain ⟨h1, h2, h3⟩ := h
  refine ⟨?_, withG_rise h2 p, fun x hx => ?_⟩
  · rw [withG_len h2]
    unfold roomB at hroom
    rw [Bool.or_eq_true, decide_eq_true_eq] at hroom
    split
    · exact h1
    · rename_i hn
      rcases hroom with h | h
      · exact absurd h hn
      · omega
  · rcases withG_mem hx with rfl | hx
    · exact ⟨hp, hr⟩
    · exact h3 x hx
theorem filter_ok {z : Int} {l : List Pr} (f : Pr → Bool) (h : PsOk z l) : PsOk z (l.filter f) :=
  ⟨Nat.le_trans (List.length_filter_le _ _) h.1, h.2.1.sublist List.filter_sublist, fun x hx => h.2.2 x (List.mem_filter.1 hx).1⟩
theorem findP_val {z : Int} {l : List Pr} (h : PsOk z l) (n : Int) : valB (findP l n).val = true ∧ 0 ≤ (findP l n).rev ∧ (findP l n).rev ≤ 4294967296 := by
  unfold findP
  split
  · have := h.2.2 _ (List.getElem_mem (hitG_lt (by assumption)))
    refine ⟨this.1.2, ?_⟩
    rcases this.2 with h | h <;> omega
  · exact ⟨valB_empty, by decide, by decide⟩
def AnOk (z : Int) (c : Cm) (a : An) : Prop := a.client = c.client ∧ a.seq = c.seq ∧ (0 ≤ a.err ∧ a.err ≤ 17) ∧ (0 ≤ a.rev ∧ a.rev ≤ 4294967296) ∧ valB a.val = true ∧ (z = 1 → a.rev = 0)
theorem nextR_le {r : Int} (h : 0 ≤ r) : 1 ≤ nextR r ∧ nextR r ≤ 4294967296 := by unfold nextR; omega
theorem doOne_an {z : Int} {l : List Pr} (c : Cm) (h : PsOk z l) : AnOk z c (doOne l c).2 ∧ (doOne l c).2.rev = 0 := by
  have hf := (findP_val h (kn c.key)).1
  unfold doOne AnOk ans0
  (repeat' split) <;> (refine ⟨⟨rfl, rfl, by simp, by simp, ?_, fun _ => rfl⟩, rfl⟩; first | exact hf | exact valB_empty)
theorem doOne_ok {l : List Pr} (c : Cm) (h : PsOk 1 l) (hk : keyB c.key = true) (hv : c.kind = 2 → valB c.val = true) : PsOk 1 (doOne l c).1 := by
  unfold doOne
  split
  · split
    · exact withG_ok h ⟨hk, hv (by assumption)⟩ (.inl ⟨rfl, rfl⟩) (by assumption)
    · exact h
  · split
    · exact h
    · split
      · exact filter_ok _ h
      · exact h
theorem room_of_hit {l : List Pr} {n : Int} (h : hitG ksP l n = true) : roomB l n = true := by unfold roomB; rw [h]; rfl
theorem doTwo_ok {l : List Pr} (c : Cm) (h : PsOk 2 l) (hk : keyB c.key = true) (hv : c.kind = 2 ∨ c.kind = 5 → valB c.val = true) : PsOk 2 (doTwo l c).1 := by
  have hf := findP_val h (kn c.key)
  have hn := nextR_le hf.2.1
  unfold doTwo
  split
  · unfold casP
    split
    · exact h
    · rename_i h5 hh
      split
      · exact withG_ok h ⟨hk, hv (by omega)⟩ (.inr ⟨rfl, hn⟩) (room_of_hit (by simpa using hh))
      · exact h
  · split
    · rename_i h5 hc
      unfold doOne at hc ⊢
      rw [if_pos hc.1] at hc ⊢
      split
      · simp only
        rw [withG_twice (by rfl)]
        exact withG_ok h ⟨hk, hv (by omega)⟩ (.inr ⟨rfl, hn⟩) (by assumption)
      · rename_i hr
        rw [if_neg hr] at hc
        exact absurd hc.2 (by simp)
    · rename_i h5 hc
      unfold doOne at hc ⊢
      split
      · rename_i h2
        rw [if_pos h2] at hc
        split
        · rename_i hr
          rw [if_pos hr] at hc
          exact absurd ⟨h2, rfl⟩ hc
        · exact h
      · split
        · exact h
        · split
          · exact filter_ok _ h
          · exact h
theorem doTwo_an {l : List Pr} (c : Cm) (h : PsOk 2 l) : AnOk 2 c (doTwo l c).2 := by
  have hf := findP_val h (kn c.key)
  have hn := nextR_le hf.2.1
  have ho := (doOne_an c h).1
  unfold doTwo
  split
  · unfold casP AnOk ans0
    (repeat' split) <;> (refine ⟨rfl, rfl, by simp, ?_, ?_, fun h => absurd h (by omega)⟩ <;> first | exact hf.1 | exact valB_empty | (simp; done) | (simp; omega) | fail)
  · split
    · exact ho
    · exact ho
theorem doS_ok {z : Int} {l : List Pr} (c : Cm) (hz : z = 1 ∨ z = 2) (h : PsOk z l) (hk : keyB c.key = true) (hv : c.kind = 2 ∨ c.kind = 5 → valB c.val = true) : PsOk z (doS z l c).1 ∧ AnOk z c (doS z l c).2 := by
  unfold doS
  rcases hz with rfl | rfl
  · rw [if_pos rfl]
    exact ⟨doOne_ok c h hk (fun h => hv (.inl h)), (doOne_an c h).1⟩
  · rw [if_neg (by omega)]
    exact ⟨doTwo_ok c h hk hv, doTwo_an c h⟩
theorem sesAt_mem {l : List Ss} {n : Int} (hr : RiseW ksS l) (h : hitG ksS l n = true) : sesAt l n ∈ l ∧ (sesAt l n).client = n := by
  rcases hit_parts hr n with ⟨hlt, h1, h2, -⟩ | ⟨h1, -, -⟩
  · unfold sesAt
    rw [dif_pos h]
    exact ⟨List.getElem_mem _, h2⟩
  · rw [h1] at h; cases h
theorem withS_ok {l : List Ss} {a : An} (h : SesP l) (ha : ansI a = 0) : SesP (withG ksS l (sesOf a)) := by
  refine ⟨rise_adjS (riseG_pw.2 (withG_rise (riseG_pw.1 (adjS_rise h.1)) _)), fun x hx => ?_⟩
  rcases withG_mem hx with rfl | hx
  · exact ⟨rfl, rfl, ha⟩
  · exact h.2 x hx
theorem anOk_ans {z : Int} {c : Cm} {a : An} (h : AnOk z c a) (h1 : 1 ≤ c.client ∧ c.client ≤ 8) (h2 : 1 ≤ c.seq ∧ c.seq ≤ 4294967296) : ansI a = 0 := by
  obtain ⟨e1, e2, e3, e4, e5, e6⟩ := h
  exact ansI_zero.2 ⟨⟨by rw [e1]; exact h1, by rw [e2]; exact h2, e3, e4⟩, e5⟩
theorem cmd_ok {c : Cm} (h : cmdI c = 0) : (1 ≤ c.kind ∧ c.kind ≤ 8) ∧ ((2 ≤ c.kind ∧ c.kind ≤ 5) → (1 ≤ c.client ∧ c.client ≤ 8) ∧ (1 ≤ c.seq ∧ c.seq ≤ 4294967296) ∧ keyB c.key = true) ∧ (c.kind = 2 ∨ c.kind = 5 → valB c.val = true) := by
  rw [cmdI_eq] at h
  unfold cmdE at h
  split at h
  · exact absurd h (by omega)
  split at h
  · exact absurd h (by omega)
  split at h
  · exact absurd h (by omega)
  rename_i h1 h2 h3
  refine ⟨by omega, fun ho => ⟨by omega, by omega, ?_⟩, fun hk => ?_⟩
  · cases hb : keyB c.key with
    | true => rfl
    | false => exact absurd (.inl ⟨ho, hb⟩) h3
  · cases hb : valB c.val with
    | true => rfl
    | false => exact absurd (.inr (.inl ⟨hk, hb⟩)) h3
theorem which_ok {l : List Ss} (h : SesP l) {n q : Int} (hw : (whichS l n q).1 = 1) : ∃ x ∈ l, x.client = n ∧ x.seq = q ∧ (whichS l n q).2 = x.last ∧ SsOk x := by
  unfold whichS at hw ⊢
  split at hw
  · exact absurd hw (by simp)
  split at hw
  · exact absurd hw (by simp)
  split at hw
  · rename_i h1 h2 h3
    have hm := sesAt_mem (riseG_pw.1 (adjS_rise h.1)) (by simpa using h1)
    rw [if_neg h1, if_neg h2, if_pos h3]
    exact ⟨_, hm.1, hm.2, h3.symm, rfl, h.2 _ hm.1⟩
  · exact absurd hw (by simp)
theorem clientS_ok {s : St} {c : Cm} (h : StP s) (hc : cmdI c = 0) (ho : 2 ≤ c.kind ∧ c.kind ≤ 5) : StP (clientS s c).1 ∧ ansI (clientS s c).2 = 0 ∧ (clientS s c).2.client = c.client ∧ (clientS s c).2.seq = c.seq := by
  obtain ⟨h1, h2, h3, h4⟩ := stP_iff.1 h
  obtain ⟨c1, c2, c3⟩ := cmd_ok hc
  obtain ⟨c4, c5, c6⟩ := c2 ho
  unfold clientS
  split
  · rename_i hw
    obtain ⟨x, hx, e1, e2, e3, e4, e5, e6⟩ := which_ok h1 hw
    rw [e3]
    exact ⟨h, e6, e4.trans e1, e5.trans e2⟩
  split
  · exact ⟨h, anOk_ans (z := 2) (c := c) ⟨rfl, rfl, by simp, by simp [ans0], valB_empty, fun h => absurd h (by omega)⟩ c4 c5, rfl, rfl⟩
  split
  · have hd := doS_ok c h2 h3 c6 c3
    have ha := anOk_ans hd.2 c4 c5
    refine ⟨stP_iff.2 ⟨withS_ok h1 ha, h2, hd.1, fun hz => ?_⟩, ha, hd.2.1, hd.2.2.1⟩
    rw [List.any_eq_false]
    intro x hx
    rcases withG_mem hx with rfl | hx
    · have := hd.2.2.2.2.2.2 hz
      unfold revS
      rw [decide_eq_false (by simpa [sesOf] using this)]
      simp
    · exact List.any_eq_false.1 (h4 hz) x hx
  · exact ⟨h, anOk_ans (z := 2) (c := c) ⟨rfl, rfl, by simp, by simp [ans0], valB_empty, fun h => absurd h (by omega)⟩ c4 c5, rfl, rfl⟩
theorem upS_ok {s : St} (h : StP s) (h1 : s.schema = 1) : StP (upS s) := by
  obtain ⟨h1, h2, ⟨h3, h4, h5⟩, h6⟩ := stP_iff.1 h
  refine stP_iff.2 ⟨h1, .inr rfl, ⟨?_, ?_, ?_⟩, fun hz => absurd (show (2 : Int) = 1 from hz) (by omega)⟩
  · show (s.pairs.map (revOf 1)).length ≤ 64
    rw [List.length_map]; exact h3
  · show RiseW ksP (s.pairs.map (revOf 1))
    exact List.pairwise_map.2 h4
  · intro x hx
    obtain ⟨y, hy, rfl⟩ := List.mem_map.1 hx
    exact ⟨(h5 y hy).1, .inr ⟨rfl, by simp [revOf], by simp [revOf]⟩⟩
theorem applyS_ok {s : St} {c : Cm} (h : StP s) (he : (applyS s c).2.2 = 0) : StP (applyS s c).1 ∧ cmdI c = 0 := by
  unfold applyS at he ⊢
  by_cases hc : cmdI c = 0
  · refine ⟨?_, hc⟩
    rw [if_neg (by simp [hc])]
    split
    · exact (clientS_ok h hc (by assumption)).1
    · split
      · rename_i h1
        exact upS_ok h h1.2
      · exact h
  · rw [if_pos hc] at he
    exact absurd he hc
abbrev Cms (G : GH) (v : Value) (l : List Cm) : Prop := Sl G 7 (RowR Cm.cells) v l
theorem Cm.len (x : Cm) : x.cells.length = 7 := rfl
theorem An.len (x : An) : x.cells.length = 6 := rfl
abbrev zAn : Value := .agg #[.int .i64 0, .int .i64 0, .int .i64 0, .bool false, .string ByteArray.empty, .int .i64 0]
abbrev GrA (v : Value) (l : List An) (ν : OH) : Prop := Grow 40 6 v l.length (rowC An.cells l) ν
theorem GrA.snoc {v : Value} {l : List An} {a : An} {ν : OH} (h : Grow 40 6 v (l.length + 1) (rowC An.cells l ++ a.cells) ν) : GrA v (l ++ [a]) ν := by
  unfold GrA
  rw [List.length_append, List.length_singleton, rowC_append, rowC_cons, rowC_nil, List.append_nil]
  exact h
noncomputable def runA (s : St) (acc : List An) : List Cm → St × List An × Int
  | [] => (s, acc, 0)
  | c :: l => if (applyS s c).2.2 ≠ 0 then (zeroSt, [], (applyS s c).2.2) else runA (applyS s c).1 (acc ++ [(applyS s c).2.1]) l
noncomputable def runS (s : St) (l : List Cm) : St × List An × Int := if StP s then runA s [] l else (zeroSt, [], 3)
def CmsW (l : List Cm) : Prop := l.length ≤ 100 ∧ ∀ c ∈ l, c.ok ∧ CmW c
theorem rowOpen' {α : Type} {f : α → List Value} {sz : Nat} {G : GH} {A : Option Addr} {n c : Nat} {l : List α} (h : Sl G sz (RowR f) (.slice A n c) l) : True ∧ True ∧ True ∧ True ∧ True ∧ True ∧ (∀ i (h : i < l.length), CellsG G ((adr A).add (i * sz)) (f l[i])) := by
  obtain ⟨A', c', e, -, -, -, h5⟩ := rowOpen h
  cases e
  exact ⟨trivial, trivial, trivial, trivial, trivial, trivial, h5⟩
theorem run_s {G : GH} (hT : TabsG G) {s : St} {v lv : Value} {l : List Cm} (hs : StV G s v) (hz : StZ s) (hl : Cms G lv l) (hlw : CmsW l) :
    Con Tryz.prog 13 #[v, lv] G [] (fun r G' μ' => ∃ v' av, r = .tuple [v', av, .int .i64 (runS s l).2.2].toArray ∧ StV G' (runS s l).1 v' ∧ GrA av (runS s l).2.1 μ') := by
  have qk := migCheck_s hT hs hz
  have hcn := migClone_s hs (by have := hz.2.2.1; omega) (by have := hz.2.2.2; omega)
  obtain ⟨LA, lc, rfl, hlc, hcm, hsome, hcp⟩ := rowOpen hl
  simp only [maxLen] at hcm
  obtain ⟨A, c0, A', c', rfl, hp, hss⟩ := id hs
  (refine v_enter Tryz.func13 rfl Tryz.ntmps13 rfl ?_; intro B _)
  by_cases hok : StP s
  · rw [if_pos hok] at qk
    have hrun : runS s l = runA s [] l := by unfold runS; rw [if_pos hok]
    rw [hrun]
    clear hrun
    repeat' (first | (apply v_box (d := 2) (zs := [.int .i64 s.schema, .slice A s.pairs.length c0, .slice A' s.sess.length c']); (case hx => rfl); (case hz => rfl); (case hd => rfl); intro b2) | (apply v_alloc (d := 4); (case hz => rfl); (case hd => rfl); intro b4) | apply v_seq | apply v_region | apply v_nil | apply v_skip | (apply v_pure; (case hop => first | (apply p_move <;> rfl) | (apply p_nes <;> rfl) | (apply p_assign <;> rfl) | fail); (case hd => rfl)) | (apply v_condF; (case hc => rfl)) | (apply v_callJ (hs := qk); (case ha => rfl); (case hd => rfl)) | (apply v_read; (case hop => (apply r_loadNo; (case hx => rfl); (case h => (repeat (first | exact mhd _ | apply mtl))); (case hd => (repeat (first | with_reducible exact dt_nil | apply dt_here))); (case hn => rfl))); (case hd => rfl)) | fail)
    refine v_call (μ1 := []) rfl hcn (List.Perm.refl _) rfl ?_
    rintro _ G2 ν2 - ⟨hG2, bp, bs, rfl, rfl⟩
    subst hG2
    refine v_frz [(bs, .cells (rowC Ss.cells s.sess).toArray 146 (0, 0)), (bp, .cells (rowC Pr.cells s.pairs).toArray 144 (0, 0))] (PickA.here _) ?_
    intro G3 hle3 hG3
    have hs3 : StV G3 s _ := StV.made (s := s) (bp := bp) (bs := bs) (by have := hz.2.2.1; omega) (by have := hz.2.2.2; omega) (hG3 _ _ (by (repeat (first | exact mhd _ | apply mtl)))) (hG3 _ _ (by (repeat (exact mhd _))))
    repeat' (first | apply v_seq | apply v_region | apply v_nil | apply v_block | (apply v_pure; (case hop => first | (apply p_move <;> rfl) | (apply p_assign <;> rfl) | (apply p_lenSlice <;> rfl) | fail); (case hd => rfl)) | (apply v_store; (case hp => rfl); (case hx => rfl); (case hc => rfl); (case hsz => rfl); (case h1 => rfl); (case hb => (repeat (first | exact mhd _ | apply mtl))); (case hfit => exact nle rfl); (case hov => ((repeat (first | with_reducible exact ov_nil | apply ov_cons)); done)); (case hu => repeat (first | exact Upd.here _ _ | apply Upd.there))) | fail)
    refine v_perm (ν := [(b4, .cells [.int .i64 0, .slice none 0 0, .slice none 0 0].toArray 32 (0, 0)), (b2, .cells [.int .i64 s.schema, .slice (some ⟨bp, 0, none⟩) s.pairs.length s.pairs.length, .slice (some ⟨bs, 0, none⟩) s.sess.length s.sess.length].toArray 32 (0, 0))]) (List.Perm.refl _) ?_
    refine v_loop [24, 23, 22, 8, 2, 4] (fun us G' μ' => GH.le G3 G' ∧ ∃ (k : Nat) (s1 : St) (A1 A1' : Option Addr) (c1 c1' : Nat) (acc : List An) (av : Value) (ν : OH), k ≤ l.length ∧ us = [Value.int .i64 (k : Nat), .int .i64 (l.length : Nat), .slice LA l.length lc, av, .pointer (some ⟨b2, 0, none⟩), .pointer (some ⟨b4, 0, none⟩)] ∧ μ' = (b4, .cells [.int .i64 0, .slice none 0 0, .slice none 0 0].toArray 32 (0, 0)) :: (b2, .cells [.int .i64 s1.schema, .slice A1 s1.pairs.length c1, .slice A1' s1.sess.length c1'].toArray 32 (0, 0)) :: ν ∧ GrA av acc ν ∧ StV G' s1 (.agg [.int .i64 s1.schema, .slice A1 s1.pairs.length c1, .slice A1' s1.sess.length c1'].toArray) ∧ StP s1 ∧ acc.length ≤ k ∧ runA s [] l = runA s1 acc (l.drop k)) (fun us => l.length - (headI us).toNat) rfl ⟨GH.le_refl _, 0, s, _, _, _, _, [], .slice none 0 0, [], by omega, rfl, rfl, Grow.nil _ _, hs3, hok, Nat.le_refl _, rfl⟩ ?_
    rintro us G' _ ⟨hle, k, s1, A1, A1', c1, c1', acc, av, ν, hk, rfl, rfl, hga, hs1, hok1, hak, hrun⟩
    have hn := hlw.1
    have hT' := hT.up (GH.le_trans hle3 hle)
    by_cases hlt : k < l.length
    · have e1 : ((k : Nat) : Int).toNat = k := by omega
      have hA := hsome (by omega)
      obtain ⟨-, -, -, -, -, -, hcp'⟩ := rowOpen' (hl.mono (GH.le_trans hle3 hle))
      have hck := hcp' k hlt
      obtain ⟨hxo, hxw⟩ := hlw.2 _ (List.getElem_mem hlt)
      have hap := apply_s hT' (l[k]) hs1 hok1.small hok1 hxo hxw
      have hnx : runA s [] l = if (applyS s1 l[k]).2.2 ≠ 0 then (zeroSt, [], (applyS s1 l[k]).2.2) else runA (applyS s1 l[k]).1 (acc ++ [(applyS s1 l[k]).2.1]) (l.drop (k + 1)) := by
        rw [hrun, List.drop_eq_getElem_cons hlt]; rfl
      have hkp : (applyS s1 l[k]).2.2 = 0 → StP (applyS s1 l[k]).1 := fun h => (applyS_ok hok1 h).1
      rw [hnx]
      clear hrun hxo hxw
      generalize applyS s1 l[k] = ap at *
      obtain ⟨s5, ⟨ac, aq, ae, af, av5, ar⟩, e5⟩ := ap
      generalize l[k] = x at *
      obtain ⟨kind, cl, seq, key, val, old, node⟩ := x
      simp only at *
      repeat' (first | (apply v_read; (case hop => (apply r_loadN; rfl; exact CellsAt.frozen hck; rfl)); (case hd => rfl)) | (apply v_alloc (d := 10); (case hz => rfl); (case hd => rfl); intro b10) | (apply v_read; (case hop => (apply r_loadNo; (case hx => rfl); (case h => repeat (first | exact mhd _ | apply mtl)); (case hd => rfl); (case hn => rfl))); (case hd => rfl)) | apply v_seq | apply v_region | apply v_nil | apply v_skip | apply v_block | (apply v_pure; (case hop => first | (apply p_lt <;> rfl) | (apply p_indexAddrS; (case hx => rfl); (case hi => rfl); (case h0 => omega); (case h => omega); (case hA => assumption)) | fail); (case hd => rfl)) | (apply v_cond; (case hc => rfl); all_goals (intro h; (try simp only [reduceCtorEq, zzz] at h); first | (exfalso; omega) | skip)) | (apply v_store; (case hp => rfl); (case hx => rfl); (case hc => rfl); (case hsz => rfl); (case h1 => rfl); (case hb => (repeat (exact mhd _))); (case hfit => exact nle rfl); (case hov => ((repeat (first | with_reducible exact ov_nil | apply ov_cons)); done)); (case hu => repeat (exact Upd.here _ _))) | fail)
      refine v_call (μ1 := []) rfl hap (List.Perm.refl _) rfl ?_
      rintro _ G5 _ hle5 ⟨rfl, v5, rfl, hs5⟩
      obtain ⟨A5, c5, A5', c5', rfl, -, -⟩ := id hs5
      repeat' (first | (apply v_alloc (d := 11); (case hz => rfl); (case hd => rfl); intro b11) | (apply v_alloc (d := 12); (case hz => rfl); (case hd => rfl); intro b12) | (apply v_read; (case hop => (apply r_loadNo; (case hx => rfl); (case h => repeat (first | exact mhd _ | apply mtl)); (case hd => rfl); (case hn => rfl))); (case hd => rfl)) | apply v_seq | apply v_region | apply v_nil | apply v_skip | (apply v_pure; (case hop => first | (apply p_move <;> rfl) | (apply p_ne <;> rfl) | (apply p_assign <;> rfl) | (apply p_extract0 <;> rfl) | (apply p_extract1 <;> rfl) | (apply p_extract2 <;> rfl) | (apply p_build; (case hz => rfl); (case hv => (simp only [List.map_cons, List.map_nil]; repeat (with_reducible exact evs_nil))); (case hb => (apply bldL; repeat (exact bld_nil)))) | fail); (case hd => rfl)) | (apply v_cond; (case hc => rfl); all_goals (intro h; (try simp only [reduceCtorEq, zzz] at h))) | (apply v_buildSlice; (case hz => rfl); (case hi => rfl); (case hv => (simp only [List.map_cons, List.map_nil]; repeat (first | with_reducible exact evs_nil | (apply evs_cons; (case h1 => rfl))))); (case hp => (apply pk_cons; (case hc => rfl); (case hs => rfl); (case h => (with_reducible exact pk_nil)); (case he => (rfl)))); (case hb => rfl); (case hd => rfl); intro b) | (apply v_store; (case hp => rfl); (case hx => rfl); (case hc => rfl); (case hsz => rfl); (case h1 => rfl); (case hb => (repeat (first | exact mhd _ | apply mtl))); (case hfit => exact nle rfl); (case hov => (first | ((repeat (first | with_reducible exact ov_nil | apply ov_cons)); done) | rfl)); (case hu => repeat (first | exact Upd.here _ _ | apply Upd.there))) | fail)
      · rw [if_pos (by assumption)]
        refine v_retM [] (outsM_ctt (sz0 := 3) (vs0 := [.int .i64 0, .slice none 0 0, .slice none 0 0]) (e0 := 32) rfl rfl (by repeat (first | exact mhd _ | apply mtl)) rfl rfl rfl) (List.nil_sublist _) ⟨_, _, rfl, StV.zero _, Grow.nil _ _⟩
      · have he5 : e5 = 0 := by assumption
        rw [if_neg (by simp [he5])]
        refine v_append (e := 40) (agg := true) (sz := 6) (bytes := 56) (zero := zAn) rfl (by omega) rfl rfl hga (μr := [(b, .cells [.int .i64 ac, .int .i64 aq, .int .i64 ae, .bool af, .string av5, .int .i64 ar].toArray 40 (0, 0)), (b12, .cells [.int .i64 ac, .int .i64 aq, .int .i64 ae, .bool af, .string av5, .int .i64 ar].toArray 40 (0, 0)), (b11, .cells [.int .i64 s5.schema, .slice A5 s5.pairs.length c5, .slice A5' s5.sess.length c5'].toArray 32 (0, 0)), (b10, .cells (Cm.cells ⟨kind, cl, seq, key, val, old, node⟩).toArray 28 (0, 0))] ++ [(b4, .cells [.int .i64 0, .slice none 0 0, .slice none 0 0].toArray 32 (0, 0)), (b2, .cells [.int .i64 s5.schema, .slice A5 s5.pairs.length c5, .slice A5' s5.sess.length c5'].toArray 32 (0, 0))]) (List.perm_append_comm (l₁ := [(b, .cells [.int .i64 ac, .int .i64 aq, .int .i64 ae, .bool af, .string av5, .int .i64 ar].toArray 40 (0, 0)), (b12, .cells [.int .i64 ac, .int .i64 aq, .int .i64 ae, .bool af, .string av5, .int .i64 ar].toArray 40 (0, 0)), (b11, .cells [.int .i64 s5.schema, .slice A5 s5.pairs.length c5, .slice A5' s5.sess.length c5'].toArray 32 (0, 0)), (b10, .cells (Cm.cells ⟨kind, cl, seq, key, val, old, node⟩).toArray 28 (0, 0))] ++ [(b4, .cells [.int .i64 0, .slice none 0 0, .slice none 0 0].toArray 32 (0, 0)), (b2, .cells [.int .i64 s5.schema, .slice A5 s5.pairs.length c5, .slice A5' s5.sess.length c5'].toArray 32 (0, 0))]) (l₂ := ν)) (m' := 1) (us := An.cells ⟨ac, aq, ae, af, av5, ar⟩) (Src.own (e := 40) (List.Mem.head _) rfl) rfl (by omega) (by simp only [maxLen]; omega) rfl fun v' ν' hg' => ?_
        have hga' := GrA.snoc hg'
        repeat' (first | apply v_region | apply v_nil | apply v_blk | (apply v_pure; (case hop => first | (apply p_move <;> rfl) | (apply p_assign <;> rfl) | (apply p_add; (case hx => rfl); (case hy => rfl); (case h => omega)) | fail); (case hd => rfl)) | fail)
        refine v_perm (ν := (b4, .cells [.int .i64 0, .slice none 0 0, .slice none 0 0].toArray 32 (0, 0)) :: (b2, .cells [.int .i64 s5.schema, .slice A5 s5.pairs.length c5, .slice A5' s5.sess.length c5'].toArray 32 (0, 0)) :: ν' ++ [(b, .cells [.int .i64 ac, .int .i64 aq, .int .i64 ae, .bool af, .string av5, .int .i64 ar].toArray 40 (0, 0)), (b12, .cells [.int .i64 ac, .int .i64 aq, .int .i64 ae, .bool af, .string av5, .int .i64 ar].toArray 40 (0, 0)), (b11, .cells [.int .i64 s5.schema, .slice A5 s5.pairs.length c5, .slice A5' s5.sess.length c5'].toArray 32 (0, 0)), (b10, .cells (Cm.cells ⟨kind, cl, seq, key, val, old, node⟩).toArray 28 (0, 0))]) (by apply perm_of_count; intro p; simp only [List.append_eq, List.countP_append, List.countP_cons, List.countP_nil, Nat.zero_add, Nat.add_zero]; try ac_rfl) ?_
        refine v_drop (List.sublist_append_left _ _) ?_
        exact v_again rfl ⟨GH.le_trans hle hle5, k + 1, s5, _, _, _, _, _, v', ν', by omega, rfl, rfl, hga', hs5, hkp he5, by rw [List.length_append, List.length_singleton]; omega, rfl⟩ (by simp [headI]; omega)
    · obtain rfl : k = l.length := by omega
      rw [hrun, List.drop_length]
      repeat' (first | apply v_seq | apply v_region | apply v_nil | (apply v_exit; (case hp => rfl)) | (apply v_pure; (case hop => first | (apply p_move <;> rfl) | (apply p_lt <;> rfl) | (apply p_assign <;> rfl) | fail); (case hd => rfl)) | (apply v_cond; (case hc => rfl); all_goals (intro h; (try simp only [reduceCtorEq, zzz] at h); first | (exfalso; omega) | skip)) | (apply v_read; (case hop => (apply r_loadNo; (case hx => rfl); (case h => (repeat (first | exact mhd _ | apply mtl))); (case hd => (repeat (first | with_reducible exact dt_nil | apply dt_here))); (case hn => rfl))); (case hd => rfl)) | (apply v_store; (case hp => rfl); (case hx => rfl); (case hc => rfl); (case hsz => rfl); (case h1 => rfl); (case hb => (repeat (exact mhd _))); (case hfit => exact nle rfl); (case hov => ((repeat (first | with_reducible exact ov_nil | apply ov_cons)); done)); (case hu => repeat (exact Upd.here _ _))) | fail)
      refine v_perm (ν := ν ++ [(b4, .cells [.int .i64 s1.schema, .slice A1 s1.pairs.length c1, .slice A1' s1.sess.length c1'].toArray 32 (0, 0)), (b2, .cells [.int .i64 s1.schema, .slice A1 s1.pairs.length c1, .slice A1' s1.sess.length c1'].toArray 32 (0, 0))]) (by apply perm_of_count; intro p; simp only [List.append_eq, List.countP_append, List.countP_cons, List.countP_nil, Nat.zero_add, Nat.add_zero]; try ac_rfl) ?_
      refine v_retM ν (outsM_ctt (sz0 := 3) (vs0 := [.int .i64 s1.schema, .slice A1 s1.pairs.length c1, .slice A1' s1.sess.length c1']) (e0 := 32) rfl rfl (by repeat (first | exact mhd _ | apply List.mem_append_right)) rfl rfl rfl) (List.sublist_append_left _ _) ⟨_, _, rfl, hs1, hga⟩
  · rw [if_neg hok] at qk
    have hrun : runS s l = (zeroSt, [], 3) := by unfold runS; rw [if_neg hok]
    rw [hrun]
    repeat' (first | (apply v_box (d := 2) (zs := [.int .i64 s.schema, .slice A s.pairs.length c0, .slice A' s.sess.length c']); (case hx => rfl); (case hz => rfl); (case hd => rfl); intro b2) | (apply v_alloc (d := 4); (case hz => rfl); (case hd => rfl); intro b4) | apply v_seq | apply v_region | apply v_nil | (apply v_pure; (case hop => first | (apply p_move <;> rfl) | (apply p_ne <;> rfl) | (apply p_assign <;> rfl) | (apply p_build; (case hz => rfl); (case hv => (simp only [List.map_cons, List.map_nil]; repeat (with_reducible exact evs_nil))); (case hb => (apply bldL; repeat (exact bld_nil)))) | fail); (case hd => rfl)) | (apply v_cond; (case hc => rfl); all_goals (intro h; (try simp only [reduceCtorEq, zzz] at h); first | (exfalso; omega) | skip)) | (apply v_callJ (hs := qk); (case ha => rfl); (case hd => rfl)) | (apply v_read; (case hop => (apply r_loadNo; (case hx => rfl); (case h => (repeat (first | exact mhd _ | apply mtl))); (case hd => (repeat (first | with_reducible exact dt_nil | apply dt_here))); (case hn => rfl))); (case hd => rfl)) | (apply v_store; (case hp => rfl); (case hx => rfl); (case hc => rfl); (case hsz => rfl); (case h1 => rfl); (case hb => (repeat (exact mhd _))); (case hfit => exact nle rfl); (case hov => ((repeat (first | with_reducible exact ov_nil | apply ov_cons)); done)); (case hu => repeat (exact Upd.here _ _))) | fail)
    refine v_retM [] (outsM_ctt (sz0 := 3) (vs0 := [.int .i64 0, .slice none 0 0, .slice none 0 0]) (e0 := 32) rfl rfl (by repeat (exact mhd _)) rfl rfl rfl) (List.nil_sublist _) ⟨_, _, rfl, StV.zero _, Grow.nil _ _⟩
def Lg (p : Prop) (G : GH) : Value → GH → OH → Prop := fun r G' μ' => G' = G ∧ μ' = [] ∧ ∃ b, r = .bool b ∧ (b = false → p)
def CmsS (l : List Cm) : Prop := l.length ≤ 60 ∧ ∀ c ∈ l, c.key.size ≤ 200 ∧ c.val.size ≤ 200 ∧ c.old.size ≤ 200
theorem lg28_s {G : GH} {l : List Cm} {sv : Value} (hs : Cms G sv l) : Con Tryz.prog 10 #[sv] G [] (Lg (CmsS l) G) := by
  obtain ⟨A, c, rfl, hlc, hcm, hsome, hcp⟩ := rowOpen hs
  simp only [maxLen] at hcm
  (refine v_enter Tryz.func10 rfl Tryz.ntmps10 rfl ?_; intro B _)
  repeat' (first | apply v_seq | apply v_region | apply v_nil | apply v_block | (apply v_pure; (case hop => (apply p_assign <;> rfl)); (case hd => rfl)) | fail)
  refine v_loop [3, 0] (fun us G' μ' => G' = G ∧ μ' = [] ∧ ∃ k : Nat, k ≤ l.length ∧ us = [Value.int .i64 (k : Nat), .slice A l.length c] ∧ ∀ i (h : i < l.length), i < k → l[i].key.size ≤ 200 ∧ l[i].val.size ≤ 200 ∧ l[i].old.size ≤ 200) (fun us => l.length - (headI us).toNat) rfl ⟨rfl, rfl, 0, by omega, rfl, by omega⟩ ?_
  rintro us G' _ ⟨rfl, rfl, k, hk, rfl, hno⟩
  have hend : 60 ≤ k ∨ l.length ≤ k → l.length ≤ 60 → CmsS l := fun h1 h2 => ⟨h2, fun x hx => by
    obtain ⟨i, hi, rfl⟩ := List.getElem_of_mem hx
    exact hno i hi (by omega)⟩
  by_cases hlt : k < l.length
  · have e1 : ((k : Nat) : Int).toNat = k := by omega
    have hA := hsome (by omega)
    have hc0 := (hcp k hlt).cell (j := 3) rfl
    have hc1 := (hcp k hlt).cell (j := 4) rfl
    have hc2 := (hcp k hlt).cell (j := 5) rfl
    have hnx : (l[k]).key.size ≤ 200 ∧ (l[k]).val.size ≤ 200 ∧ (l[k]).old.size ≤ 200 → ∀ i (h : i < l.length), i < k + 1 → l[i].key.size ≤ 200 ∧ l[i].val.size ≤ 200 ∧ l[i].old.size ≤ 200 := fun a2 i hi hik => by
      by_cases e : i = k
      · subst e; exact a2
      · exact hno i hi (by omega)
    generalize (l[k]).key = x at *
    generalize (l[k]).val = y at *
    generalize (l[k]).old = z at *
    repeat' (first | apply v_seq | apply v_region | apply v_nil | apply v_skip | apply v_block | apply v_blk | (apply v_exit; (case hp => rfl)) | (apply v_take; (case hg => rfl)) | (apply v_pass; (case hg => rfl); (case hn => rfl); (case hd => rfl)) | (apply v_pure; (case hop => first | (apply p_move <;> rfl) | (apply p_lt <;> rfl) | (apply p_gt <;> rfl) | (apply p_assign <;> rfl) | (apply p_pickT <;> rfl) | (apply p_pickF <;> rfl) | (apply p_lenSlice <;> rfl) | (apply p_fieldAddr <;> rfl) | (apply p_add; (case hx => rfl); (case hy => rfl); (case h => omega)) | (apply p_indexAddrS; (case hx => rfl); (case hi => rfl); (case h0 => omega); (case h => omega); (case hA => assumption)) | (apply p_lenString <;> rfl) | fail); (case hd => rfl)) | (apply v_condT; (case hc => rfl)) | (apply v_cond; (case hc => rfl); all_goals (intro h; (try simp only [reduceCtorEq, zzz] at h))) | (apply v_guardB; (case h1 => rfl); (case h2 => rfl); all_goals (intro h; (try simp only [reduceCtorEq, zzz] at h); first | (exfalso; omega) | skip)) | (apply v_read; (case hop => (apply r_load1; rfl; exact Cell.frozen hc0)); (case hd => rfl)) | (apply v_read; (case hop => (apply r_load1; rfl; exact Cell.frozen hc1)); (case hd => rfl)) | (apply v_read; (case hop => (apply r_load1; rfl; exact Cell.frozen hc2)); (case hd => rfl)) | fail)
    all_goals first
      | (refine v_again rfl ⟨rfl, rfl, k + 1, by omega, rfl, hnx (by omega)⟩ (by simp [headI]; omega))
      | (refine v_ret [] (outsA1 rfl rfl) (by repeat (exact List.Sublist.refl _)) ?_
         exact ⟨rfl, rfl, _, rfl, fun h => by first | cases h | exact hend (by omega) (by (rw [dec_eq, decide_eq_false_iff_not] at h; omega))⟩)
  · repeat' (first | apply v_seq | apply v_region | apply v_nil | (apply v_exit; (case hp => rfl)) | (apply v_pass; (case hg => rfl); (case hn => rfl); (case hd => rfl)) | (apply v_pure; (case hop => first | (apply p_move <;> rfl) | (apply p_lt <;> rfl) | (apply p_gt <;> rfl) | (apply p_assign <;> rfl) | (apply p_pickF <;> rfl) | (apply p_lenSlice <;> rfl) | fail); (case hd => rfl)) | (apply v_condF; (case hc => rfl)) | (apply v_guardB; (case h1 => rfl); (case h2 => rfl); all_goals (intro h; (try simp only [reduceCtorEq, zzz] at h); first | (exfalso; omega) | skip)) | fail)
    all_goals
      (refine v_ret [] (outsA1 rfl rfl) (by repeat (exact List.Sublist.refl _)) ?_
       exact ⟨rfl, rfl, _, rfl, fun h => by first | exact hend (by omega) (by (rw [dec_eq, decide_eq_false_iff_not] at h; omega))⟩)
def Sm (p : Prop) (G : GH) : Value → GH → OH → Prop := fun r G' μ' => G' = G ∧ μ' = [] ∧ ∃ b, r = .bool b ∧ (p → b = true)
theorem pr_feq (x y : Pr) : ∃ q, FEq Tryz.prog 9999 x.cells y.cells [⟨"Key", 9, 0, false, "", "", 0⟩, ⟨"Val", 9, 1, false, "", "", 16⟩, ⟨"Rev", 3, 2, false, "", "", 32⟩] q ∧ (x = y → q = true) :=
  ⟨_, feq_str (bytes := 16) (zero := .string ByteArray.empty) (sz := 1) (a := x.key) (b := y.key) rfl rfl rfl (feq_str (bytes := 16) (zero := .string ByteArray.empty) (sz := 1) (a := x.val) (b := y.val) rfl rfl rfl (feq_int (k := .i64) (bytes := 8) (zero := .int .i64 0) (sz := 1) (a := x.rev) (b := y.rev) rfl rfl rfl feq_nil)), by rintro rfl; simp [dec_true]⟩
theorem an_feqD (d : Nat) (x y : An) : ∃ q, FEq Tryz.prog (d + 1) x.cells y.cells [⟨"Client", 3, 0, false, "", "", 0⟩, ⟨"Seq", 3, 1, false, "", "", 8⟩, ⟨"Err", 25, 2, false, "", "", 16⟩, ⟨"Found", 4, 3, false, "", "", 24⟩, ⟨"Val", 9, 4, false, "", "", 32⟩, ⟨"Rev", 3, 5, false, "", "", 48⟩] q ∧ (x = y → q = true) :=
  ⟨_, feq_int (k := .i64) (bytes := 8) (zero := .int .i64 0) (sz := 1) (a := x.client) (b := y.client) rfl rfl rfl (feq_int (k := .i64) (bytes := 8) (zero := .int .i64 0) (sz := 1) (a := x.seq) (b := y.seq) rfl rfl rfl (feq_int (k := .i64) (bytes := 8) (zero := .int .i64 0) (sz := 1) (a := x.err) (b := y.err) rfl rfl rfl (feq_one (bytes := 1) (zero := .bool false) (sz := 1) rfl (u := .bool x.found) (v := .bool y.found) rfl rfl (eqIs_bool d x.found y.found) (feq_str (bytes := 16) (zero := .string ByteArray.empty) (sz := 1) (a := x.val) (b := y.val) rfl rfl rfl (feq_int (k := .i64) (bytes := 8) (zero := .int .i64 0) (sz := 1) (a := x.rev) (b := y.rev) rfl rfl rfl feq_nil))))), by rintro rfl; simp [dec_true]⟩
theorem ss_feq (x y : Ss) : ∃ q, FEq Tryz.prog 9999 x.cells y.cells [⟨"Client", 3, 0, false, "", "", 0⟩, ⟨"Seq", 3, 1, false, "", "", 8⟩, ⟨"Last", 40, 2, false, "", "", 16⟩] q ∧ (x = y → q = true) := by
  obtain ⟨q, hq, hq1⟩ := an_feqD 9997 x.last y.last
  refine ⟨_, feq_int (k := .i64) (bytes := 8) (zero := .int .i64 0) (sz := 1) (a := x.client) (b := y.client) rfl rfl rfl (feq_int (k := .i64) (bytes := 8) (zero := .int .i64 0) (sz := 1) (a := x.seq) (b := y.seq) rfl rfl rfl (feq_agg (bytes := 56) (zero := zAn) (sz := 6) (us := x.last.cells) (vs := y.last.cells) rfl rfl rfl hq feq_nil)), ?_⟩
  rintro rfl
  rw [hq1 rfl]
  simp [dec_true]
theorem refPSame_s {G : GH} {l m : List Pr} {sv tv : Value} (hs : Prs G sv l) (ht : Prs G tv m) : Con Tryz.prog 73 #[sv, tv] G [] (Sm (l = m) G) := by
  obtain ⟨A, c, rfl, hlc, hcm, hsome, hcp⟩ := rowOpen hs
  obtain ⟨A', c', rfl, hlc', hcm', hsome', hcp'⟩ := rowOpen ht
  simp only [maxLen] at hcm hcm'
  (refine v_enter Tryz.func73 rfl Tryz.ntmps73 rfl ?_; intro B _)
  by_cases hlen : l.length = m.length
  · repeat' (first | apply v_seq | apply v_region | apply v_nil | apply v_skip | apply v_block | (apply v_pure; (case hop => first | (apply p_move <;> rfl) | (apply p_ne <;> rfl) | (apply p_assign <;> rfl) | (apply p_lenSlice <;> rfl) | fail); (case hd => rfl)) | (apply v_cond; (case hc => rfl); all_goals (intro h; (try simp only [reduceCtorEq, zzz] at h); first | (exfalso; omega) | skip)) | fail)
    refine v_loop [5, 0, 1] (fun us G' μ' => G' = G ∧ μ' = [] ∧ ∃ k : Nat, k ≤ l.length ∧ us = [Value.int .i64 (k : Nat), .slice A l.length c, .slice A' m.length c']) (fun us => l.length - (headI us).toNat) rfl ⟨rfl, rfl, 0, by omega, rfl⟩ ?_
    rintro us G' _ ⟨rfl, rfl, k, hk, rfl⟩
    by_cases hlt : k < l.length
    · have e1 : ((k : Nat) : Int).toNat = k := by omega
      have hA := hsome (by omega)
      have hA' := hsome' (by omega)
      have hck := hcp k hlt
      have hck' := hcp' k (by omega)
      have hin : l = m → l[k] = m[k]'(by omega) := fun h => by subst h; rfl
      generalize l[k] = x at *
      generalize m[k]'(by omega) = y at *
      obtain ⟨q, hq, hq1⟩ := pr_feq x y
      have hop := fun σ ty t' a b hx hy => p_neStruct (P := Tryz.prog) (σ := σ) (ty := ty) (t := 144) (t' := t') (x := a) (y := b) hx hy hq
      repeat' (first | apply v_seq | apply v_region | apply v_nil | apply v_skip | apply v_block | (apply v_pure; (case hop => first | (apply p_move <;> rfl) | (apply p_lt <;> rfl) | (apply p_lenSlice <;> rfl) | fail); (case hd => rfl)) | (apply v_cond; (case hc => rfl); all_goals (intro h; (try simp only [reduceCtorEq, zzz] at h); first | (exfalso; omega) | skip)) | fail)
      refine d_start [] (by kernel_rfl) (by kernel_rfl) (by kernel_rfl) (by intro e he; exact he) ?_
      all_goals (apply dtk 0; (case hi => rfl); (case hop => (apply prd; apply p_move <;> rfl)); (case hq => kernel_rfl))
      all_goals (apply dtk 1; (case hi => rfl); (case hop => (apply prd; apply p_move <;> rfl)); (case hq => kernel_rfl))
      all_goals (apply dtk 2; (case hi => rfl); (case hop => (apply prd; apply p_indexAddrS; (case hx => rfl); (case hi => rfl); (case h0 => omega); (case h => omega); (case hA => assumption))); (case hq => kernel_rfl))
      all_goals (apply dtk 3; (case hi => rfl); (case hop => ((apply r_loadN; rfl; exact CellsAt.frozen hck; rfl))); (case hq => kernel_rfl))
      all_goals (apply dtk 4; (case hi => rfl); (case hop => (apply prd; apply p_move <;> rfl)); (case hq => kernel_rfl))
      all_goals (apply dtk 5; (case hi => rfl); (case hop => (apply prd; apply p_move <;> rfl)); (case hq => kernel_rfl))
      all_goals (apply dtk 6; (case hi => rfl); (case hop => (apply prd; apply p_indexAddrS; (case hx => rfl); (case hi => rfl); (case h0 => omega); (case h => omega); (case hA => assumption))); (case hq => kernel_rfl))
      all_goals (apply dtk 7; (case hi => rfl); (case hop => ((apply r_loadN; rfl; exact CellsAt.frozen hck'; rfl))); (case hq => kernel_rfl))
      all_goals (apply dtk 8; (case hi => rfl); (case hop => ((apply prd; apply hop; (case hx => rfl); (case hy => rfl)))); (case hq => kernel_rfl))
      all_goals (apply d_done; (case hr => kernel_rfl))
      cases q with
      | true =>
        repeat' (first | apply v_region | apply v_nil | apply v_skip | apply v_blk | (apply v_pure; (case hop => first | (apply p_move <;> rfl) | (apply p_assign <;> rfl) | (apply p_add; (case hx => rfl); (case hy => rfl); (case h => omega)) | fail); (case hd => rfl)) | (apply v_condF; (case hc => rfl)) | fail)
        exact v_again rfl ⟨rfl, rfl, k + 1, by omega, rfl⟩ (by simp [headI]; omega)
      | false =>
        repeat' (first | apply v_seq | apply v_region | apply v_nil | (apply v_pure; (case hop => (apply p_assign <;> rfl)); (case hd => rfl)) | (apply v_condT; (case hc => rfl)) | fail)
        refine v_ret [] (outsA1 rfl rfl) (by repeat (exact List.Sublist.refl _)) ?_
        exact ⟨rfl, rfl, _, rfl, fun h => absurd (hq1 (hin h)) (by simp)⟩
    · repeat' (first | apply v_seq | apply v_region | apply v_nil | (apply v_exit; (case hp => rfl)) | (apply v_pure; (case hop => first | (apply p_move <;> rfl) | (apply p_lt <;> rfl) | (apply p_assign <;> rfl) | (apply p_lenSlice <;> rfl) | fail); (case hd => rfl)) | (apply v_cond; (case hc => rfl); all_goals (intro h; (try simp only [reduceCtorEq, zzz] at h); first | (exfalso; omega) | skip)) | fail)
      refine v_ret [] (outsA1 rfl rfl) (by repeat (exact List.Sublist.refl _)) ?_
      exact ⟨rfl, rfl, _, rfl, fun _ => rfl⟩
  · repeat' (first | apply v_seq | apply v_region | apply v_nil | (apply v_pure; (case hop => first | (apply p_move <;> rfl) | (apply p_ne <;> rfl) | (apply p_assign <;> rfl) | (apply p_lenSlice <;> rfl) | fail); (case hd => rfl)) | (apply v_cond; (case hc => rfl); all_goals (intro h; (try simp only [reduceCtorEq, zzz] at h); first | (exfalso; omega) | skip)) | fail)
    all_goals
      (refine v_ret [] (outsA1 rfl rfl) (by repeat (exact List.Sublist.refl _)) ?_
       exact ⟨rfl, rfl, _, rfl, fun h => absurd (congrArg List.length h) hlen⟩)
theorem refSSame_s {G : GH} {l m : List Ss} {sv tv : Value} (hs : Sss G sv l) (ht : Sss G tv m) : Con Tryz.prog 74 #[sv, tv] G [] (Sm (l = m) G) := by
  obtain ⟨A, c, rfl, hlc, hcm, hsome, hcp⟩ := rowOpen hs
  obtain ⟨A', c', rfl, hlc', hcm', hsome', hcp'⟩ := rowOpen ht
  simp only [maxLen] at hcm hcm'
  (refine v_enter Tryz.func74 rfl Tryz.ntmps74 rfl ?_; intro B _)
  by_cases hlen : l.length = m.length
  · repeat' (first | apply v_seq | apply v_region | apply v_nil | apply v_skip | apply v_block | (apply v_pure; (case hop => first | (apply p_move <;> rfl) | (apply p_ne <;> rfl) | (apply p_assign <;> rfl) | (apply p_lenSlice <;> rfl) | fail); (case hd => rfl)) | (apply v_cond; (case hc => rfl); all_goals (intro h; (try simp only [reduceCtorEq, zzz] at h); first | (exfalso; omega) | skip)) | fail)
    refine v_loop [5, 0, 1] (fun us G' μ' => G' = G ∧ μ' = [] ∧ ∃ k : Nat, k ≤ l.length ∧ us = [Value.int .i64 (k : Nat), .slice A l.length c, .slice A' m.length c']) (fun us => l.length - (headI us).toNat) rfl ⟨rfl, rfl, 0, by omega, rfl⟩ ?_
    rintro us G' _ ⟨rfl, rfl, k, hk, rfl⟩
    by_cases hlt : k < l.length
    · have e1 : ((k : Nat) : Int).toNat = k := by omega
      have hA := hsome (by omega)
      have hA' := hsome' (by omega)
      have hck := hcp k hlt
      have hck' := hcp' k (by omega)
      have hin : l = m → l[k] = m[k]'(by omega) := fun h => by subst h; rfl
      generalize l[k] = x at *
      generalize m[k]'(by omega) = y at *
      obtain ⟨q, hq, hq1⟩ := ss_feq x y
      have hop := fun σ ty t' a b hx hy => p_neStruct (P := Tryz.prog) (σ := σ) (ty := ty) (t := 146) (t' := t') (x := a) (y := b) hx hy hq
      repeat' (first | apply v_seq | apply v_region | apply v_nil | apply v_skip | apply v_block | (apply v_pure; (case hop => first | (apply p_move <;> rfl) | (apply p_lt <;> rfl) | (apply p_lenSlice <;> rfl) | fail); (case hd => rfl)) | (apply v_cond; (case hc => rfl); all_goals (intro h; (try simp only [reduceCtorEq, zzz] at h); first | (exfalso; omega) | skip)) | fail)
      refine d_start [] (by kernel_rfl) (by kernel_rfl) (by kernel_rfl) (by intro e he; exact he) ?_
      all_goals (apply dtk 0; (case hi => rfl); (case hop => (apply prd; apply p_move <;> rfl)); (case hq => kernel_rfl))
      all_goals (apply dtk 1; (case hi => rfl); (case hop => (apply prd; apply p_move <;> rfl)); (case hq => kernel_rfl))
      all_goals (apply dtk 2; (case hi => rfl); (case hop => (apply prd; apply p_indexAddrS; (case hx => rfl); (case hi => rfl); (case h0 => omega); (case h => omega); (case hA => assumption))); (case hq => kernel_rfl))
      all_goals (apply dtk 3; (case hi => rfl); (case hop => ((apply r_loadN; rfl; exact CellsAt.frozen hck; rfl))); (case hq => kernel_rfl))
      all_goals (apply dtk 4; (case hi => rfl); (case hop => (apply prd; apply p_move <;> rfl)); (case hq => kernel_rfl))
      all_goals (apply dtk 5; (case hi => rfl); (case hop => (apply prd; apply p_move <;> rfl)); (case hq => kernel_rfl))
      all_goals (apply dtk 6; (case hi => rfl); (case hop => (apply prd; apply p_indexAddrS; (case hx => rfl); (case hi => rfl); (case h0 => omega); (case h => omega); (case hA => assumption))); (case hq => kernel_rfl))
      all_goals (apply dtk 7; (case hi => rfl); (case hop => ((apply r_loadN; rfl; exact CellsAt.frozen hck'; rfl))); (case hq => kernel_rfl))
      all_goals (apply dtk 8; (case hi => rfl); (case hop => ((apply prd; apply hop; (case hx => rfl); (case hy => rfl)))); (case hq => kernel_rfl))
      all_goals (apply d_done; (case hr => kernel_rfl))
      cases q with
      | true =>
        repeat' (first | apply v_region | apply v_nil | apply v_skip | apply v_blk | (apply v_pure; (case hop => first | (apply p_move <;> rfl) | (apply p_assign <;> rfl) | (apply p_add; (case hx => rfl); (case hy => rfl); (case h => omega)) | fail); (case hd => rfl)) | (apply v_condF; (case hc => rfl)) | fail)
        exact v_again rfl ⟨rfl, rfl, k + 1, by omega, rfl⟩ (by simp [headI]; omega)
      | false =>
        repeat' (first | apply v_seq | apply v_region | apply v_nil | (apply v_pure; (case hop => (apply p_assign <;> rfl)); (case hd => rfl)) | (apply v_condT; (case hc => rfl)) | fail)
        refine v_ret [] (outsA1 rfl rfl) (by repeat (exact List.Sublist.refl _)) ?_
        exact ⟨rfl, rfl, _, rfl, fun h => absurd (hq1 (hin h)) (by simp)⟩
    · repeat' (first | apply v_seq | apply v_region | apply v_nil | (apply v_exit; (case hp => rfl)) | (apply v_pure; (case hop => first | (apply p_move <;> rfl) | (apply p_lt <;> rfl) | (apply p_assign <;> rfl) | (apply p_lenSlice <;> rfl) | fail); (case hd => rfl)) | (apply v_cond; (case hc => rfl); all_goals (intro h; (try simp only [reduceCtorEq, zzz] at h); first | (exfalso; omega) | skip)) | fail)
      refine v_ret [] (outsA1 rfl rfl) (by repeat (exact List.Sublist.refl _)) ?_
      exact ⟨rfl, rfl, _, rfl, fun _ => rfl⟩
  · repeat' (first | apply v_seq | apply v_region | apply v_nil | (apply v_pure; (case hop => first | (apply p_move <;> rfl) | (apply p_ne <;> rfl) | (apply p_assign <;> rfl) | (apply p_lenSlice <;> rfl) | fail); (case hd => rfl)) | (apply v_cond; (case hc => rfl); all_goals (intro h; (try simp only [reduceCtorEq, zzz] at h); first | (exfalso; omega) | skip)) | fail)
    all_goals
      (refine v_ret [] (outsA1 rfl rfl) (by repeat (exact List.Sublist.refl _)) ?_
       exact ⟨rfl, rfl, _, rfl, fun h => absurd (congrArg List.length h) hlen⟩)
abbrev Ans (G : GH) (v : Value) (l : List An) : Prop := Sl G 6 (RowR An.cells) v l
theorem refAnswers_s {G : GH} {l m : List An} {sv tv : Value} (hs : Ans G sv l) (ht : Ans G tv m) : Con Tryz.prog 17 #[sv, tv] G [] (Sm (l = m) G) := by
  obtain ⟨A, c, rfl, hlc, hcm, hsome, hcp⟩ := rowOpen hs
  obtain ⟨A', c', rfl, hlc', hcm', hsome', hcp'⟩ := rowOpen ht
  simp only [maxLen] at hcm hcm'
  (refine v_enter Tryz.func17 rfl Tryz.ntmps17 rfl ?_; intro B _)
  by_cases hlen : l.length = m.length
  · repeat' (first | apply v_seq | apply v_region | apply v_nil | apply v_skip | apply v_block | (apply v_pure; (case hop => first | (apply p_move <;> rfl) | (apply p_ne <;> rfl) | (apply p_assign <;> rfl) | (apply p_lenSlice <;> rfl) | fail); (case hd => rfl)) | (apply v_cond; (case hc => rfl); all_goals (intro h; (try simp only [reduceCtorEq, zzz] at h); first | (exfalso; omega) | skip)) | fail)
    refine v_loop [5, 0, 1] (fun us G' μ' => G' = G ∧ μ' = [] ∧ ∃ k : Nat, k ≤ l.length ∧ us = [Value.int .i64 (k : Nat), .slice A l.length c, .slice A' m.length c']) (fun us => l.length - (headI us).toNat) rfl ⟨rfl, rfl, 0, by omega, rfl⟩ ?_
    rintro us G' _ ⟨rfl, rfl, k, hk, rfl⟩
    by_cases hlt : k < l.length
    · have e1 : ((k : Nat) : Int).toNat = k := by omega
      have hA := hsome (by omega)
      have hA' := hsome' (by omega)
      have hck := hcp k hlt
      have hck' := hcp' k (by omega)
      have hin : l = m → l[k] = m[k]'(by omega) := fun h => by subst h; rfl
      generalize l[k] = x at *
      generalize m[k]'(by omega) = y at *
      obtain ⟨q, hq, hq1⟩ := an_feqD 9998 x y
      have hop := fun σ ty t' a b hx hy => p_neStruct (P := Tryz.prog) (σ := σ) (ty := ty) (t := 40) (t' := t') (x := a) (y := b) hx hy hq
      repeat' (first | apply v_seq | apply v_region | apply v_nil | apply v_skip | apply v_block | (apply v_pure; (case hop => first | (apply p_move <;> rfl) | (apply p_lt <;> rfl) | (apply p_lenSlice <;> rfl) | fail); (case hd => rfl)) | (apply v_cond; (case hc => rfl); all_goals (intro h; (try simp only [reduceCtorEq, zzz] at h); first | (exfalso; omega) | skip)) | fail)
      refine d_start [] (by kernel_rfl) (by kernel_rfl) (by kernel_rfl) (by intro e he; exact he) ?_
      all_goals (apply dtk 0; (case hi => rfl); (case hop => (apply prd; apply p_move <;> rfl)); (case hq => kernel_rfl))
      all_goals (apply dtk 1; (case hi => rfl); (case hop => (apply prd; apply p_move <;> rfl)); (case hq => kernel_rfl))
      all_goals (apply dtk 2; (case hi => rfl); (case hop => (apply prd; apply p_indexAddrS; (case hx => rfl); (case hi => rfl); (case h0 => omega); (case h => omega); (case hA => assumption))); (case hq => kernel_rfl))
      all_goals (apply dtk 3; (case hi => rfl); (case hop => ((apply r_loadN; rfl; exact CellsAt.frozen hck; rfl))); (case hq => kernel_rfl))
      all_goals (apply dtk 4; (case hi => rfl); (case hop => (apply prd; apply p_move <;> rfl)); (case hq => kernel_rfl))
      all_goals (apply dtk 5; (case hi => rfl); (case hop => (apply prd; apply p_move <;> rfl)); (case hq => kernel_rfl))
      all_goals (apply dtk 6; (case hi => rfl); (case hop => (apply prd; apply p_indexAddrS; (case hx => rfl); (case hi => rfl); (case h0 => omega); (case h => omega); (case hA => assumption))); (case hq => kernel_rfl))
      all_goals (apply dtk 7; (case hi => rfl); (case hop => ((apply r_loadN; rfl; exact CellsAt.frozen hck'; rfl))); (case hq => kernel_rfl))
      all_goals (apply dtk 8; (case hi => rfl); (case hop => ((apply prd; apply hop; (case hx => rfl); (case hy => rfl)))); (case hq => kernel_rfl))
      all_goals (apply d_done; (case hr => kernel_rfl))
      cases q with
      | true =>
        repeat' (first | apply v_region | apply v_nil | apply v_skip | apply v_blk | (apply v_pure; (case hop => first | (apply p_move <;> rfl) | (apply p_assign <;> rfl) | (apply p_add; (case hx => rfl); (case hy => rfl); (case h => omega)) | fail); (case hd => rfl)) | (apply v_condF; (case hc => rfl)) | fail)
        exact v_again rfl ⟨rfl, rfl, k + 1, by omega, rfl⟩ (by simp [headI]; omega)
      | false =>
        repeat' (first | apply v_seq | apply v_region | apply v_nil | (apply v_pure; (case hop => (apply p_assign <;> rfl)); (case hd => rfl)) | (apply v_condT; (case hc => rfl)) | fail)
        refine v_ret [] (outsA1 rfl rfl) (by repeat (exact List.Sublist.refl _)) ?_
        exact ⟨rfl, rfl, _, rfl, fun h => absurd (hq1 (hin h)) (by simp)⟩
    · repeat' (first | apply v_seq | apply v_region | apply v_nil | (apply v_exit; (case hp => rfl)) | (apply v_pure; (case hop => first | (apply p_move <;> rfl) | (apply p_lt <;> rfl) | (apply p_assign <;> rfl) | (apply p_lenSlice <;> rfl) | fail); (case hd => rfl)) | (apply v_cond; (case hc => rfl); all_goals (intro h; (try simp only [reduceCtorEq, zzz] at h); first | (exfalso; omega) | skip)) | fail)
      refine v_ret [] (outsA1 rfl rfl) (by repeat (exact List.Sublist.refl _)) ?_
      exact ⟨rfl, rfl, _, rfl, fun _ => rfl⟩
  · repeat' (first | apply v_seq | apply v_region | apply v_nil | (apply v_pure; (case hop => first | (apply p_move <;> rfl) | (apply p_ne <;> rfl) | (apply p_assign <;> rfl) | (apply p_lenSlice <;> rfl) | fail); (case hd => rfl)) | (apply v_cond; (case hc => rfl); all_goals (intro h; (try simp only [reduceCtorEq, zzz] at h); first | (exfalso; omega) | skip)) | fail)
    all_goals
      (refine v_ret [] (outsA1 rfl rfl) (by repeat (exact List.Sublist.refl _)) ?_
       exact ⟨rfl, rfl, _, rfl, fun h => absurd (congrArg List.length h) hlen⟩)
theorem refSame_s {G : GH} {s t : St} {v u : Value} (hs : StV G s v) (ht : StV G t u) : Con Tryz.prog 19 #[v, u] G [] (Sm (s = t) G) := by
  obtain ⟨A, c, A', c', rfl, hp, hss⟩ := id hs
  obtain ⟨B0, e, B', e', rfl, hp', hss'⟩ := id ht
  have q1 := refPSame_s hp hp'
  have q2 := refSSame_s hss hss'
  obtain ⟨schema, lp, ls⟩ := s
  obtain ⟨schema', lp', ls'⟩ := t
  simp only at *
  (refine v_enter Tryz.func19 rfl Tryz.ntmps19 rfl ?_; intro B _)
  by_cases hz : schema = schema'
  · subst hz
    repeat' (first | (apply v_box (d := 2) (zs := [.int .i64 schema, .slice A lp.length c, .slice A' ls.length c']); (case hx => rfl); (case hz => rfl); (case hd => rfl); intro b2) | (apply v_box (d := 3) (zs := [.int .i64 schema, .slice B0 lp'.length e, .slice B' ls'.length e']); (case hx => rfl); (case hz => rfl); (case hd => rfl); intro b3) | apply v_seq | apply v_region | apply v_nil | (apply v_take; (case hg => rfl)) | (apply v_pure; (case hop => first | (apply p_move <;> rfl) | (apply p_eqs <;> rfl) | (apply p_assign <;> rfl) | (apply p_fieldAddrB <;> rfl) | fail); (case hd => rfl)) | (apply v_read; (case hop => (apply r_load1; rfl; (apply Cell.own; (case h => (repeat (first | exact mhd _ | apply mtl))); rfl))); (case hd => rfl)) | fail)
    refine v_call (μ1 := []) rfl q1 (List.Perm.refl _) rfl ?_
    rintro _ G1 _ - ⟨hG1, rfl, b1, rfl, h1⟩
    subst hG1
    cases b1 with
    | false =>
      repeat' (first | apply v_nil | (apply v_pass; (case hg => rfl); (case hn => rfl); (case hd => rfl)) | (apply v_pure; (case hop => first | (apply p_move <;> rfl) | (apply p_assign <;> rfl) | (apply p_pickT <;> rfl) | (apply p_pickF <;> rfl) | fail); (case hd => rfl)) | fail)
      refine v_ret [] (outsA1 rfl rfl) (by repeat (exact List.nil_sublist _)) ?_
      exact ⟨rfl, rfl, _, rfl, fun h => by cases h; exact h1 rfl⟩
    | true =>
      repeat' (first | (apply v_take; (case hg => rfl)) | (apply v_pure; (case hop => first | (apply p_move <;> rfl) | (apply p_pickT <;> rfl) | (apply p_fieldAddrB <;> rfl) | fail); (case hd => rfl)) | (apply v_read; (case hop => (apply r_load1; rfl; (apply Cell.own; (case h => (repeat (first | exact mhd _ | apply mtl))); rfl))); (case hd => rfl)) | fail)
      refine v_call (μ1 := []) rfl q2 (List.Perm.refl _) rfl ?_
      rintro _ G1 _ - ⟨hG1, rfl, b4, rfl, h2⟩
      subst hG1
      repeat' (first | apply v_nil | (apply v_pure; (case hop => first | (apply p_assign <;> rfl) | (apply p_pickT <;> rfl) | fail); (case hd => rfl)) | fail)
      refine v_ret [] (outsA1 rfl rfl) (by repeat (exact List.nil_sublist _)) ?_
      exact ⟨rfl, rfl, _, rfl, fun h => by cases h; exact h2 rfl⟩
  · repeat' (first | (apply v_box (d := 2) (zs := [.int .i64 schema, .slice A lp.length c, .slice A' ls.length c']); (case hx => rfl); (case hz => rfl); (case hd => rfl); intro b2) | (apply v_box (d := 3) (zs := [.int .i64 schema', .slice B0 lp'.length e, .slice B' ls'.length e']); (case hx => rfl); (case hz => rfl); (case hd => rfl); intro b3) | apply v_seq | apply v_region | apply v_nil | (apply v_pass; (case hg => rfl); (case hn => rfl); (case hd => rfl)) | (apply v_pure; (case hop => first | (apply p_move <;> rfl) | (apply p_eq <;> rfl) | (apply p_assign <;> rfl) | (apply p_pickF <;> rfl) | (apply p_fieldAddrB <;> rfl) | fail); (case hd => rfl)) | (apply v_guardB; (case h1 => rfl); (case h2 => rfl); all_goals (intro h; (try simp only [reduceCtorEq, zzz] at h); first | (exfalso; omega) | skip)) | (apply v_read; (case hop => (apply r_load1; rfl; (apply Cell.own; (case h => (repeat (first | exact mhd _ | apply mtl))); rfl))); (case hd => rfl)) | fail)
    all_goals
      (refine v_ret [] (outsA1 rfl rfl) (by repeat (exact List.nil_sublist _)) ?_
       exact ⟨rfl, rfl, _, rfl, fun h => absurd (congrArg St.schema h) hz⟩)
section
variable {α : Type} {key : α → Int}
end
def prR (z : Int) (f : Pr) : Int := if z = 2 then nextR f.rev else 0
noncomputable def doR (z : Int) (l : List Pr) (c : Cm) : List Pr × An :=
  if c.kind = 2 then (if hitG ksP l (kn c.key) = false ∧ 64 ≤ l.length then (l, { ans0 c with err := 11 }) else (withG ksP l ⟨c.key, c.val, prR z (findP l (kn c.key))⟩, { ans0 c with found := hitG ksP l (kn c.key), val := (findP l (kn c.key)).val }))
  else if c.kind = 4 then (l.filter (fun x => decide (ksP x ≠ kn c.key)), { ans0 c with found := hitG ksP l (kn c.key), val := (findP l (kn c.key)).val })
  else if c.kind = 5 then (if hitG ksP l (kn c.key) = false then (l, { ans0 c with err := 10 }) else if (findP l (kn c.key)).val = c.old then (withG ksP l ⟨c.key, c.val, prR z (findP l (kn c.key))⟩, { ans0 c with found := true, val := (findP l (kn c.key)).val, rev := prR z (findP l (kn c.key)) }) else (l, { ans0 c with err := 15, found := true, val := (findP l (kn c.key)).val, rev := (findP l (kn c.key)).rev }))
  else (l, { ans0 c with found := hitG ksP l (kn c.key), val := (findP l (kn c.key)).val })
theorem roomB_iff {l : List Pr} {n : Int} : roomB l n = true ↔ ¬ (hitG ksP l n = false ∧ 64 ≤ l.length) := by
  unfold roomB
  cases hitG ksP l n <;> simp
theorem doR_eq {z : Int} {l : List Pr} (c : Cm) (hz : z = 1 ∨ z = 2) (hk : 2 ≤ c.kind ∧ c.kind ≤ 5) (h5 : c.kind = 5 → z = 2) : doS z l c = doR z l c := by
  have hroom := roomB_iff (l := l) (n := kn c.key)
  unfold doS doR prR
  rcases hz with rfl | rfl
  · rw [if_pos rfl]
    unfold doOne
    by_cases h2 : c.kind = 2
    · rw [if_pos h2, if_pos h2]
      by_cases hr : roomB l (kn c.key) = true
      · rw [if_pos hr, if_neg (hroom.1 hr)]
        simp
      · rw [if_neg hr, if_pos (Classical.not_not.1 (fun h => hr (hroom.2 h)))]
    · rw [if_neg h2, if_neg h2]
      by_cases h3 : c.kind = 3
      · rw [if_pos h3, if_neg (by omega), if_neg (by omega)]
      · by_cases h4 : c.kind = 4
        · rw [if_neg h3, if_pos h4, if_pos h4]
        · exact absurd (h5 (by omega)) (by omega)
  · rw [if_neg (by omega)]
    unfold doTwo
    by_cases h5 : c.kind = 5
    · rw [if_pos h5, if_neg (by omega), if_neg (by omega), if_pos h5]
      unfold casP
      simp
    · rw [if_neg h5]
      by_cases h2 : c.kind = 2
      · rw [if_pos h2]
        by_cases hr : roomB l (kn c.key) = true
        · have e : doOne l c = (withG ksP l ⟨c.key, c.val, 0⟩, { ans0 c with found := hitG ksP l (kn c.key), val := (findP l (kn c.key)).val }) := by
            unfold doOne; rw [if_pos h2, if_pos hr]
          rw [e, if_pos ⟨h2, rfl⟩, if_neg (hroom.1 hr)]
          simp only
          rw [withG_twice (by rfl)]
          simp
        · have e : doOne l c = (l, { ans0 c with err := 11 }) := by
            unfold doOne; rw [if_pos h2, if_neg hr]
          rw [e, if_neg (fun h => absurd h.2 (by simp)), if_pos (Classical.not_not.1 (fun h => hr (hroom.2 h)))]
      · rw [if_neg (fun h => h2 h.1), if_neg h2]
        unfold doOne
        rw [if_neg h2]
        by_cases h3 : c.kind = 3
        · rw [if_pos h3, if_neg (by omega), if_neg h5]
        · rw [if_neg h3, if_pos (by omega), if_pos (by omega)]
structure Ls where
  seq : Int
  ans : An
def Ls.cells (x : Ls) : List Value := .int .i64 x.seq :: x.ans.cells
theorem Ls.len (x : Ls) : x.cells.length = 7 := rfl
def zLs : Ls := ⟨0, zA⟩
def dAt (D : List Ls) (c : Nat) : Ls := D.getD c zLs
def sesOne (D : List Ls) (c : Nat) : List Ss := if 0 < (dAt D c).seq then [⟨c, (dAt D c).seq, (dAt D c).ans⟩] else []
def sesK (D : List Ls) : Nat → List Ss
  | 0 => []
  | k + 1 => sesK D k ++ sesOne D k
theorem sesOne_mem {D : List Ls} {x : Ss} {c : Nat} : x ∈ sesOne D c ↔ 0 < (dAt D c).seq ∧ x = ⟨c, (dAt D c).seq, (dAt D c).ans⟩ := by
  unfold sesOne
  by_cases h : 0 < (dAt D c).seq
  · rw [if_pos h, List.mem_singleton]; exact ⟨fun e => ⟨h, e⟩, fun e => e.2⟩
  · rw [if_neg h]; exact ⟨fun e => by simp at e, fun e => absurd e.1 h⟩
theorem sesK_mem {D : List Ls} {x : Ss} : ∀ k, x ∈ sesK D k ↔ ∃ c, c < k ∧ 0 < (dAt D c).seq ∧ x = ⟨c, (dAt D c).seq, (dAt D c).ans⟩
  | 0 => by simp [sesK]
  | k + 1 => by
    rw [sesK, List.mem_append, sesK_mem k, sesOne_mem]
    constructor
    · rintro (⟨c, h1, h2⟩ | h)
      · exact ⟨c, by omega, h2⟩
      · exact ⟨k, by omega, h⟩
    · rintro ⟨c, h1, h2⟩
      by_cases hc : c = k
      · subst hc; exact .inr h2
      · exact .inl ⟨c, by omega, h2⟩
theorem sesK_lt {D : List Ls} {k : Nat} {x : Ss} (h : x ∈ sesK D k) : 0 ≤ ksS x ∧ ksS x < k := by
  obtain ⟨c, h1, -, rfl⟩ := (sesK_mem k).1 h
  exact ⟨by show (0 : Int) ≤ (c : Nat); omega, by show ((c : Nat) : Int) < _; omega⟩
theorem sesK_rise (D : List Ls) : ∀ k, RiseW ksS (sesK D k)
  | 0 => List.Pairwise.nil
  | k + 1 => by
    rw [sesK]
    refine List.pairwise_append.2 ⟨sesK_rise D k, ?_, fun x hx y hy => ?_⟩
    · unfold sesOne
      split
      · exact List.pairwise_singleton _ _
      · exact List.Pairwise.nil
    · obtain ⟨-, rfl⟩ := sesOne_mem.1 hy
      exact (sesK_lt hx).2
theorem withG_snoc {α : Type} {key : α → Int} {l : List α} {p y : α} (h : key p < key y) : withG key (l ++ [y]) p = withG key l p ++ [y] := by
  unfold withG
  rw [List.filter_append, List.filter_append, List.filter_cons_of_neg (by simp; omega), List.filter_cons_of_pos (by simp; omega)]
  simp
theorem withG_all {α : Type} {key : α → Int} {l : List α} {p : α} (h : ∀ x ∈ l, key x < key p) : withG key l p = l ++ [p] := by
  unfold withG
  rw [List.filter_eq_self.2 (fun x hx => by simpa using h x hx), List.filter_eq_nil_iff.2 (fun x hx => by have := h x hx; simp; omega)]
theorem withG_same {α : Type} {key : α → Int} {l : List α} {p y : α} (h : key y = key p) : withG key (l ++ [y]) p = withG key l p := by
  unfold withG
  rw [List.filter_append, List.filter_append, List.filter_cons_of_neg (by simp; omega), List.filter_cons_of_neg (by simp; omega)]
  simp
theorem dAt_set {D : List Ls} {c : Nat} (hc : c < D.length) (x : Ls) (j : Nat) : dAt (D.set c x) j = if j = c then x else dAt D j := by
  unfold dAt
  rw [List.getD_eq_getElem?_getD, List.getElem?_set]
  by_cases h : c = j
  · subst h; simp [hc]
  · rw [if_neg h, if_neg (fun e => h e.symm)]; rfl
theorem sesK_set {D : List Ls} {c : Nat} (hc : c < D.length) {x : Ls} (hx : 0 < x.seq) : ∀ k, sesK (D.set c x) k = if k ≤ c then sesK D k else withG ksS (sesK D k) ⟨c, x.seq, x.ans⟩
  | 0 => by simp [sesK]
  | k + 1 => by
    have ih := sesK_set hc hx k
    have e := dAt_set hc x k
    rw [sesK, ih]
    rcases Nat.lt_trichotomy k c with h | h | h
    · have ek : dAt (D.set c x) k = dAt D k := by rw [e, if_neg (by omega)]
      rw [if_pos (by omega), if_pos (by omega)]
      have e2 : sesOne (D.set c x) k = sesOne D k := by unfold sesOne; rw [ek]
      rw [e2]
      rfl
    · subst h
      rw [if_pos (Nat.le_refl _), if_neg (by omega)]
      have e2 : sesOne (D.set k x) k = [⟨k, x.seq, x.ans⟩] := by
        unfold sesOne
        rw [e, if_pos rfl, if_pos hx]
      rw [e2, sesK]
      have hlt : ∀ y ∈ sesK D k, ksS y < ksS (⟨k, x.seq, x.ans⟩ : Ss) := fun y hy => (sesK_lt hy).2
      unfold sesOne
      split
      · rw [withG_same (show ksS (⟨k, (dAt D k).seq, (dAt D k).ans⟩ : Ss) = ksS (⟨k, x.seq, x.ans⟩ : Ss) from rfl), withG_all hlt]
      · rw [List.append_nil, withG_all hlt]
    · rw [if_neg (by omega), if_neg (by omega), sesK]
      have ek : dAt (D.set c x) k = dAt D k := by rw [e, if_neg (by omega)]
      have e2 : sesOne (D.set c x) k = sesOne D k := by unfold sesOne; rw [ek]
      rw [e2]
      unfold sesOne
      by_cases hd : 0 < (dAt D k).seq
      · rw [if_pos hd, withG_snoc (show ksS (⟨c, x.seq, x.ans⟩ : Ss) < ksS (⟨k, (dAt D k).seq, (dAt D k).ans⟩ : Ss) from by show ((c : Nat) : Int) < (k : Nat); omega)]
      · rw [if_neg hd, List.append_nil, List.append_nil]
theorem rise_same {α : Type} {key : α → Int} {l : List α} (h : RiseW key l) {x y : α} (hx : x ∈ l) (hy : y ∈ l) (e : key x = key y) : x = y := by
  obtain ⟨i, hi, rfl⟩ := List.getElem_of_mem hx
  obtain ⟨j, hj, rfl⟩ := List.getElem_of_mem hy
  have hp := List.pairwise_iff_getElem.1 h
  rcases Nat.lt_trichotomy i j with hlt | rfl | hlt
  · have := hp i j hi hj hlt; omega
  · rfl
  · have := hp j i hj hi hlt; omega
theorem dAt_look {D : List Ls} {k c : Nat} (hc : c < k) : (hitG ksS (sesK D k) (c : Nat) = true ∧ 0 < (dAt D c).seq ∧ sesAt (sesK D k) (c : Nat) = ⟨c, (dAt D c).seq, (dAt D c).ans⟩) ∨ (hitG ksS (sesK D k) (c : Nat) = false ∧ ¬ 0 < (dAt D c).seq) := by
  have hr := sesK_rise D k
  by_cases h : 0 < (dAt D c).seq
  · left
    have hm : (⟨c, (dAt D c).seq, (dAt D c).ans⟩ : Ss) ∈ sesK D k := (sesK_mem k).2 ⟨c, hc, h, rfl⟩
    have hh : hitG ksS (sesK D k) (c : Nat) = true := (hit_iff hr).2 ⟨_, hm, rfl⟩
    obtain ⟨h1, h2⟩ := sesAt_mem hr hh
    exact ⟨hh, h, rise_same hr h1 hm h2⟩
  · right
    refine ⟨?_, h⟩
    cases hh : hitG ksS (sesK D k) (c : Nat) with
    | false => rfl
    | true =>
      obtain ⟨x, hx, he⟩ := (hit_iff hr).1 hh
      obtain ⟨c', -, h1, rfl⟩ := (sesK_mem k).1 hx
      have : c' = c := by
        have : ((c' : Nat) : Int) = (c : Nat) := he
        omega
      subst this
      exact absurd h1 h
theorem nodup_of_map {α β : Type} (f : α → β) {l : List α} (h : (l.map f).Nodup) : l.Nodup := List.Pairwise.of_map f (fun a b hne e => hne (by rw [e])) h
def prE (p : Pr) : ByteArray × Value := (p.key, .agg #[.string p.val, .int .i64 p.rev])
theorem prE_keys (L : List Pr) : (L.map prE).map (·.1) = L.map (·.key) := by simp [prE, Function.comp_def]
theorem findP_hit {l : List Pr} (hr : RiseW ksP l) {n : Int} (h : hitG ksP l n = true) : findP l n ∈ l ∧ ksP (findP l n) = n := by
  unfold findP
  rw [dif_pos h]
  refine ⟨List.getElem_mem _, ?_⟩
  unfold hitG at h
  split at h
  · simpa using h
  · cases h
theorem findP_no {l : List Pr} {n : Int} (h : hitG ksP l n = false) : findP l n = zeroPr := by
  unfold findP
  rw [dif_neg (by simp [h])]
section
variable {L l : List Pr} (hp : L.Perm l) (hr : RiseW ksP l) (hz : Sized l)
include hp hr hz
set_option linter.unusedSectionVars false
theorem keys_nodup : (L.map (·.key)).Nodup := by
  refine (hp.map _).nodup_iff.2 ?_
  refine List.pairwise_map.2 (hr.imp fun {a b} h e => ?_)
  simp only [ksP, e] at h
  omega
theorem mget_prs {k : ByteArray} (hk : k.size ≤ 200) : mget (L.map prE) k = if hitG ksP l (kn k) = true then some (prE (findP l (kn k))).2 else none := by
  have hn : ((L.map prE).map (·.1)).Nodup := by rw [prE_keys]; exact keys_nodup hp hr hz
  by_cases h : hitG ksP l (kn k) = true
  · rw [if_pos h]
    obtain ⟨h1, h2⟩ := findP_hit hr h
    refine (mget_mem hn).2 (List.mem_map.2 ⟨_, hp.mem_iff.2 h1, ?_⟩)
    have : (findP l (kn k)).key = k := (kn_inj (hz _ h1).1 hk).1 h2
    unfold prE
    rw [this]
  · rw [if_neg h]
    refine mget_no ?_
    rw [prE_keys]
    intro hm
    obtain ⟨x, hx, e⟩ := List.mem_map.1 hm
    exact h ((hit_iff hr).2 ⟨x, hp.mem_iff.1 hx, by show kn x.key = _; rw [e]⟩)
theorem mput_prs {k v : ByteArray} {r : Int} (hk : k.size ≤ 200) : ∃ L' : List Pr, mput (L.map prE) k (.agg #[.string v, .int .i64 r]) = L'.map prE ∧ L'.Perm (withG ksP l ⟨k, v, r⟩) := by
  have hn := keys_nodup hp hr hz
  have hzL : ∀ x ∈ L, x.key.size ≤ 200 := fun x hx => (hz x (hp.mem_iff.1 hx)).1
  have hw : (withG ksP l ⟨k, v, r⟩).Nodup := (withG_rise hr _).imp fun {a b} h e => by subst e; omega
  have hmw : ∀ x, x ∈ withG ksP l ⟨k, v, r⟩ ↔ x = ⟨k, v, r⟩ ∨ (x ∈ L ∧ x.key ≠ k) := by
    intro x
    unfold withG
    simp only [List.mem_append, List.mem_cons, List.mem_filter, decide_eq_true_eq]
    constructor
    · rintro (⟨h1, h2⟩ | h | ⟨h1, h2⟩)
      · exact .inr ⟨hp.mem_iff.2 h1, fun e => by simp only [ksP, e] at h2; omega⟩
      · exact .inl h
      · exact .inr ⟨hp.mem_iff.2 h1, fun e => by simp only [ksP, e] at h2; omega⟩
    · rintro (h | ⟨h1, h2⟩)
      · exact .inr (.inl h)
      · have hne : kn x.key ≠ kn k := fun e => h2 ((kn_inj (hzL x h1) hk).1 e)
        rcases Int.lt_or_gt_of_ne hne with h | h
        · exact .inl ⟨hp.mem_iff.1 h1, h⟩
        · exact .inr (.inr ⟨hp.mem_iff.1 h1, h⟩)
  by_cases hin : k ∈ L.map (·.key)
  · refine ⟨L.map (fun p => if p.key = k then ⟨k, v, r⟩ else p), ?_, ?_⟩
    · have e : ∀ p : Pr, (if (prE p).1 = k then (k, (Value.agg #[.string v, .int .i64 r])) else prE p) = prE (if p.key = k then ⟨k, v, r⟩ else p) := fun p => by
        by_cases h : p.key = k
        · rw [if_pos (show (prE p).1 = k from h), if_pos h]; rfl
        · rw [if_neg (show ¬ (prE p).1 = k from h), if_neg h]
      unfold mput
      rw [if_pos (by rw [prE_keys]; exact hin), List.map_map, List.map_map]
      exact List.map_congr_left fun p _ => e p
    · have hk2 : (L.map (fun p => if p.key = k then (⟨k, v, r⟩ : Pr) else p)).map (·.key) = L.map (·.key) := by
        rw [List.map_map]
        refine List.map_congr_left fun p _ => ?_
        simp only [Function.comp_apply]
        split
        · rename_i h; exact h.symm
        · rfl
      have hnd : (L.map (fun p => if p.key = k then (⟨k, v, r⟩ : Pr) else p)).Nodup := nodup_of_map (·.key) (by rw [hk2]; exact hn)
      refine (List.perm_ext_iff_of_nodup hnd hw).2 fun x => ?_
      rw [hmw x]
      constructor
      · intro hx
        obtain ⟨p, hp1, rfl⟩ := List.mem_map.1 hx
        split
        · exact .inl rfl
        · rename_i h; exact .inr ⟨hp1, h⟩
      · rintro (rfl | ⟨h1, h2⟩)
        · obtain ⟨p, hp1, hp2⟩ := List.mem_map.1 hin
          exact List.mem_map.2 ⟨p, hp1, by rw [if_pos hp2]⟩
        · exact List.mem_map.2 ⟨x, h1, by rw [if_neg h2]⟩
  · refine ⟨L ++ [⟨k, v, r⟩], ?_, ?_⟩
    · rw [mput_no (by rw [prE_keys]; exact hin), List.map_append]
      rfl
    · have hnd : (L ++ [(⟨k, v, r⟩ : Pr)]).Nodup := by
        refine nodup_of_map (·.key) ?_
        rw [List.map_append, List.nodup_append]
        refine ⟨hn, by simp, fun x hx y hy e => ?_⟩
        simp only [List.map_cons, List.map_nil, List.mem_singleton] at hy
        subst hy; subst e
        exact hin hx
      refine (List.perm_ext_iff_of_nodup hnd hw).2 fun x => ?_
      rw [hmw x, List.mem_append, List.mem_singleton]
      constructor
      · rintro (h | h)
        · exact .inr ⟨h, fun e => hin (List.mem_map.2 ⟨x, h, e⟩)⟩
        · exact .inl h
      · rintro (h | ⟨h, -⟩)
        · exact .inr h
        · exact .inl h
theorem mdel_prs {k : ByteArray} (hk : k.size ≤ 200) : ∃ L' : List Pr, mdel (L.map prE) k = L'.map prE ∧ L'.Perm (l.filter (fun x => decide (ksP x ≠ kn k))) := by
  refine ⟨L.filter (fun x => decide (ksP x ≠ kn k)), ?_, hp.filter _⟩
  unfold mdel
  rw [List.filter_map]
  congr 1
  refine List.filter_congr fun x hx => ?_
  simp only [Function.comp_apply, prE, ne_eq, decide_not, Bool.not_eq_eq_eq_not, Bool.not_not]
  congr 1
  exact propext (kn_inj (hz x (hp.mem_iff.1 hx)).1 hk).symm
end
abbrev mcO (kb : Nat) (act : Bool) (D : List Ls) : Obj := .cells (Value.map (some kb) :: Value.bool act :: rowC Ls.cells D).toArray 131 (0, 0)
def MapP (l : List Pr) (o : Obj) : Prop := ∃ L : List Pr, L.Perm l ∧ MapB keyS (L.map prE) o
def MapW (l : List Pr) : Prop := RiseW ksP l ∧ Sized l ∧ l.length ≤ 64 ∧ ∀ x ∈ l, 0 ≤ x.rev ∧ x.rev ≤ 4294967296
instance keyT_strM : KeyT Tryz.prog 9 keyS := KeyT.string
def vlE (p : Pr) : Value := .agg #[.string p.val, .int .i64 p.rev]
theorem mgetV {l : List Pr} {oM : Obj} (hw : MapW l) {L : List Pr} (hp : L.Perm l) {k : ByteArray} (hk : k.size ≤ 200) : (mget (L.map prE) k).getD (.agg #[.string ByteArray.empty, .int .i64 0]) = vlE (findP l (kn k)) ∧ (mget (L.map prE) k).isSome = hitG ksP l (kn k) := by
  rw [mget_prs hp hw.1 hw.2.1 hk]
  cases h : hitG ksP l (kn k) with
  | true => rw [if_pos rfl]; exact ⟨rfl, rfl⟩
  | false => rw [if_neg (by simp), findP_no h]; exact ⟨rfl, rfl⟩
theorem r_keyOk {σ : Env} {G : GH} {μ : OH} {ty : TypeId} {x i : Operand} {kb : Nat} {oM : Obj} {l : List Pr} (k : ByteArray) (f : Pr) (hf : findP l (kn k) = f) (b : Bool) (hb' : hitG ksP l (kn k) = b) (hw : MapW l) (hM : MapP l oM) (hk : k.size ≤ 200) (hb : (kb, oM) ∈ μ) (hx : Env.ev σ x = some (.map (some kb))) (hi : Env.ev σ i = some (keyS k)) :
    ReadOp Tryz.prog (.lookup 126 x i true) ty σ G μ (.tuple #[.agg #[.string f.val, .int .i64 f.rev], .bool b]) := by
  obtain ⟨L, hp, hMB⟩ := hM
  have := r_lookupOk (P := Tryz.prog) (ty := ty) (G := G) (t := 126) (k := 9) (e := 142) (mk := keyS) k hx hi hb hMB
  obtain ⟨e1, e2⟩ := mgetV (oM := oM) hw hp hk
  rw [e1, e2, hf, hb'] at this
  exact this
theorem r_key {σ : Env} {G : GH} {μ : OH} {ty : TypeId} {x i : Operand} {kb : Nat} {oM : Obj} {l : List Pr} (k : ByteArray) (f : Pr) (hf : findP l (kn k) = f) (hw : MapW l) (hM : MapP l oM) (hk : k.size ≤ 200) (hb : (kb, oM) ∈ μ) (hx : Env.ev σ x = some (.map (some kb))) (hi : Env.ev σ i = some (keyS k)) :
    ReadOp Tryz.prog (.lookup 126 x i false) ty σ G μ (.agg #[.string f.val, .int .i64 f.rev]) := by
  obtain ⟨L, hp, hMB⟩ := hM
  have := r_lookup (P := Tryz.prog) (ty := ty) (G := G) (t := 126) (k := 9) (e := 142) (mk := keyS) k hx hi hb hMB
  rw [(mgetV (oM := oM) hw hp hk).1, hf] at this
  exact this
theorem r_lenP {σ : Env} {G : GH} {μ : OH} {ty : TypeId} {x : Operand} {kb : Nat} {oM : Obj} {l : List Pr} (n : Nat) (hn : l.length = n) (hM : MapP l oM) (hb : (kb, oM) ∈ μ) (hx : Env.ev σ x = some (.map (some kb))) :
    ReadOp Tryz.prog (.call { callee := .builtin .len, args := #[x], argTypes := #[126] }) ty σ G μ (.int .i64 (n : Nat)) := by
  obtain ⟨L, hp, hMB⟩ := hM
  have := r_lenMap (P := Tryz.prog) (ty := ty) (G := G) (t := 126) (k := 9) (e := 142) (mk := keyS) hx hb hMB
  rw [List.length_map, hp.length_eq, hn] at this
  exact this
def revQ (act : Bool) (r : Int) : Int := if act = true then nextR r else 0
theorem rev_s (G : GH) (mb kb : Nat) (act : Bool) (D : List Ls) (r : Int) (h : 0 ≤ r ∧ r ≤ 4294967296) : Con Tryz.prog 296 #[.pointer (some ⟨mb, 0, none⟩), .int .i64 r] G [(mb, mcO kb act D)] (Keeps (.int .i64 (revQ act r)) G [(mb, mcO kb act D)]) := by
  unfold revQ nextR
  cases act with
  | true =>
    (refine v_enter Tryz.func296 rfl Tryz.ntmps296 rfl ?_; intro B _)
    repeat' (first | apply v_seq | apply v_region | apply v_nil | apply v_skip | (apply v_pure; (case hop => first | (apply p_move <;> rfl) | (apply p_assign <;> rfl) | (apply p_not <;> rfl) | (apply p_fieldAddrB <;> rfl) | (apply p_nilCheck <;> rfl) | (apply p_add; (case hx => rfl); (case hy => rfl); (case h => omega)) | (apply p_min <;> rfl)); (case hd => rfl)) | (apply v_condF; (case hc => rfl)) | (apply v_read; (case hop => (apply r_load1; rfl; (apply Cell.own; (case h => (repeat (exact mhd _))); rfl))); (case hd => rfl)) | fail)
    refine v_ret [(mb, _)] (outsA1 rfl rfl) (List.Sublist.refl _) ⟨?_, rfl, rfl⟩
    congr 1
    simp only [if_true]
    omega
  | false =>
    (refine v_enter Tryz.func296 rfl Tryz.ntmps296 rfl ?_; intro B _)
    repeat' (first | apply v_seq | apply v_region | apply v_nil | (apply v_pure; (case hop => first | (apply p_move <;> rfl) | (apply p_assign <;> rfl) | (apply p_not <;> rfl) | (apply p_fieldAddrB <;> rfl) | (apply p_nilCheck <;> rfl) | fail); (case hd => rfl)) | (apply v_condT; (case hc => rfl)) | (apply v_read; (case hop => (apply r_load1; rfl; (apply Cell.own; (case h => (repeat (exact mhd _))); rfl))); (case hd => rfl)) | fail)
    exact v_ret [(mb, _)] (outsA1 rfl rfl) (List.Sublist.refl _) ⟨rfl, rfl, rfl⟩
theorem MapP.put {l : List Pr} {L : List Pr} {o : Obj} {k v : ByteArray} {r : Int} (hw : MapW l) (hp : L.Perm l) (hk : k.size ≤ 200) (hM : MapB keyS (mput (L.map prE) k (.agg #[.string v, .int .i64 r])) o) : MapP (withG ksP l ⟨k, v, r⟩) o := by
  obtain ⟨L', h1, h2⟩ := mput_prs (v := v) (r := r) hp hw.1 hw.2.1 hk
  exact ⟨L', h2, by rw [← h1]; exact hM⟩
theorem findP_revs {l : List Pr} (hw : MapW l) (n : Int) : 0 ≤ (findP l n).rev ∧ (findP l n).rev ≤ 4294967296 := by
  cases h : hitG ksP l n with
  | true => exact hw.2.2.2 _ (findP_hit hw.1 h).1
  | false => rw [findP_no h]; exact ⟨by decide, by decide⟩
def setL (act : Bool) (l : List Pr) (k v : ByteArray) : List Pr := if roomB l (kn k) = true then withG ksP l ⟨k, v, revQ act (findP l (kn k)).rev⟩ else l
set_option maxHeartbeats 1000000 in
theorem mset_s {G : GH} {mb kb : Nat} {act : Bool} {D : List Ls} {oM : Obj} {l : List Pr} (c : Cm) (hw : MapW l) (hM : MapP l oM) (hk : c.key.size ≤ 200) :
    Con Tryz.prog 258 #[.pointer (some ⟨mb, 0, none⟩), .agg c.cells.toArray] G [(mb, mcO kb act D), (kb, oM)] (fun r G' μ' => G' = G ∧ r = .bool (roomB l (kn c.key)) ∧ ∃ oM', MapP (setL act l c.key c.val) oM' ∧ μ' = [(mb, mcO kb act D), (kb, oM')]) := by
  have hfr := findP_revs hw (kn c.key)
  have hq := rev_s G mb kb act D (findP l (kn c.key)).rev hfr
  have hroom : roomB l (kn c.key) = (hitG ksP l (kn c.key) || decide (l.length < 64)) := rfl
  have hset : setL act l c.key c.val = if roomB l (kn c.key) = true then withG ksP l ⟨c.key, c.val, revQ act (findP l (kn c.key)).rev⟩ else l := rfl
  have hput := fun (L : List Pr) (o : Obj) (hp : L.Perm l) h => MapP.put (o := o) (v := c.val) (r := revQ act (findP l (kn c.key)).rev) hw hp hk h
  have hlen := hw.2.2.1
  rw [hset, hroom]
  clear hset hroom
  obtain ⟨kind, client, seq, key, val, old, node⟩ := c
  simp only at *
  generalize hf : findP l (kn key) = f at *
  generalize hb : hitG ksP l (kn key) = b at *
  generalize hn : l.length = n at *
  generalize revQ act f.rev = rq at *
  generalize withG ksP l ⟨key, val, rq⟩ = lw at *
  obtain ⟨L, hp, hMB⟩ := id hM
  have hr0 : b = false → ((n : Nat) : Int) = 64 → (b || decide (n < 64)) = false := by intro h1 h2; subst h1; simp; omega
  have hr1 : b = true ∨ ¬ ((n : Nat) : Int) = 64 → (b || decide (n < 64)) = true := by
    rintro (h1 | h1)
    · subst h1; rfl
    · cases b <;> simp; omega
  (refine v_enter Tryz.func258 rfl Tryz.ntmps258 rfl ?_; intro B _)
  repeat' (first | (apply v_box (d := 3) (zs := Cm.cells ⟨kind, client, seq, key, val, old, node⟩); (case hx => rfl); (case hz => rfl); (case hd => rfl); intro b3) | apply v_seq | apply v_region | apply v_nil | (apply v_pure; (case hop => (apply p_assign <;> rfl)); (case hd => rfl)) | fail)
  refine d_start [(b3, .cells (Cm.cells ⟨kind, client, seq, key, val, old, node⟩).toArray 28 (0, 0)), (mb, mcO kb act D), (kb, oM)] (by kernel_rfl) (by kernel_rfl) (by kernel_rfl) (by intro e he; exact he) ?_
  all_goals (apply dtk 0; (case hi => rfl); (case hop => (apply prd; apply p_move <;> rfl)); (case hq => kernel_rfl))
  all_goals (apply dtk 1; (case hi => rfl); (case hop => (apply prd; apply p_nilCheck <;> rfl)); (case hq => kernel_rfl))
  all_goals (apply dtk 2; (case hi => rfl); (case hop => (apply prd; apply p_fieldAddrB <;> rfl)); (case hq => kernel_rfl))
  all_goals (apply dtk 3; (case hi => rfl); (case hop => (apply r_load1; rfl; (apply Cell.own; (case h => (repeat (first | exact mhd _ | apply mtl))); rfl))); (case hq => kernel_rfl))
  all_goals (apply dtk 4; (case hi => rfl); (case hop => (apply prd; apply p_fieldAddrB <;> rfl)); (case hq => kernel_rfl))
  all_goals (apply dtk 5; (case hi => rfl); (case hop => (apply r_load1; rfl; (apply Cell.own; (case h => (repeat (exact mhd _))); rfl))); (case hq => kernel_rfl))
  all_goals (apply dtk 6; (case hi => rfl); (case hop => ((apply r_keyOk key f hf b hb hw hM hk; (case hb => repeat (first | exact mhd _ | apply mtl)); (case hx => rfl); (case hi => rfl)))); (case hq => kernel_rfl))
  all_goals (apply dtk 7; (case hi => rfl); (case hop => (apply prd; apply p_move <;> rfl)); (case hq => kernel_rfl))
  all_goals (apply dtk 8; (case hi => rfl); (case hop => (apply prd; apply p_extract0 <;> rfl)); (case hq => kernel_rfl))
  all_goals (apply dtk 9; (case hi => rfl); (case hop => (apply prd; apply p_extract1 <;> rfl)); (case hq => kernel_rfl))
  all_goals (apply d_exec 10; (case hi => rfl); (case hr => kernel_rfl); (case hop => exact m_alloc rfl); (case hd => rfl); rintro _ _ _ ⟨b5, rfl, rfl, rfl⟩; refine ⟨(by intro e he; (simp at he; simp [he]; done)), ?_⟩)
  all_goals (apply d_store 11; (case hi => rfl); (case hr => kernel_rfl); (case hL => infer_instance); (case hp => rfl); (case hx => rfl); (case hc => rfl); (case hsz => rfl); (case h1 => rfl); (case hb => (repeat (exact mhd _))); (case hfit => exact nle rfl); (case hov => ((repeat (first | with_reducible exact ov_nil | apply ov_cons)); done)); (case hu => repeat (exact Upd.here _ _)); (case hν' => intro e he; (simp at he; simp [he]; done)))
  all_goals (apply dtk 12; (case hi => rfl); (case hop => (apply prd; apply p_assign <;> rfl)); (case hq => kernel_rfl))
  all_goals (apply d_done; (case hr => kernel_rfl))
  repeat' (first | apply v_seq | apply v_region | apply v_nil | apply v_skip | (apply v_take; (case hg => rfl)) | (apply v_pass; (case hg => rfl); (case hn => rfl); (case hd => rfl)) | (apply v_pure; (case hop => first | (apply p_move <;> rfl) | (apply p_eq <;> rfl) | (apply p_assign <;> rfl) | (apply p_pickT <;> rfl) | (apply p_pickF <;> rfl) | (apply p_not <;> rfl) | (apply p_fieldAddrB <;> rfl) | (apply p_nilCheck <;> rfl) | fail); (case hd => rfl)) | (apply v_condF; (case hc => rfl)) | (apply v_cond; (case hc => rfl); all_goals (intro h; (try simp only [reduceCtorEq, zzz] at h))) | (apply v_guardB; (case h1 => rfl); (case h2 => rfl); all_goals (intro h; (try simp only [reduceCtorEq, zzz] at h))) | (apply v_read; (case hop => (apply r_lenP n hn hM; (case hb => repeat (first | exact mhd _ | apply mtl)); (case hx => rfl))); (case hd => rfl)) | (apply v_read; (case hop => (apply r_load1; rfl; (apply Cell.own; (case h => (repeat (first | exact mhd _ | apply mtl))); rfl))); (case hd => rfl)) | fail)
  all_goals first
    | (refine v_ret [(mb, mcO kb act D), (kb, oM)] (outsA1 rfl rfl) (by repeat (first | exact List.Sublist.refl _ | apply List.Sublist.cons)) ?_
       have e := hr0 (by assumption) (by assumption)
       exact ⟨rfl, by rw [e], oM, by rw [e, if_neg (by simp)]; exact hM, rfl⟩)
    | skip
  all_goals
    refine d_start [(b3, .cells (Cm.cells ⟨kind, client, seq, key, val, old, node⟩).toArray 28 (0, 0)), (b5, .cells [.string f.val, .int .i64 f.rev].toArray 142 (0, 0)), (mb, mcO kb act D)] (by kernel_rfl) (by kernel_rfl) (by kernel_rfl) (by intro e he; (simp only [List.mem_cons, List.not_mem_nil, or_false] at he; rcases he with rfl | rfl | rfl <;> simp; done)) ?_
    all_goals (apply dtk 0; (case hi => rfl); (case hop => (apply prd; apply p_move <;> rfl)); (case hq => kernel_rfl))
    all_goals (apply dtk 1; (case hi => rfl); (case hop => (apply prd; apply p_nilCheck <;> rfl)); (case hq => kernel_rfl))
    all_goals (apply dtk 2; (case hi => rfl); (case hop => (apply prd; apply p_fieldAddrB <;> rfl)); (case hq => kernel_rfl))
    all_goals (apply dtk 3; (case hi => rfl); (case hop => first | (apply r_loadNo; (case hx => rfl); (case h => (repeat (fail))); (case hd => (repeat (fail))); (case hn => rfl)) | (apply r_load1; rfl; (apply Cell.own; (case h => (repeat (first | exact mhd _ | apply mtl))); rfl)) | (apply r_loadN; rfl; (apply CellsAt.own; (case h => (repeat (fail)))); rfl)); (case hq => kernel_rfl))
    all_goals (apply dtk 4; (case hi => rfl); (case hop => (apply prd; apply p_fieldAddrB <;> rfl)); (case hq => kernel_rfl))
    all_goals (apply dtk 5; (case hi => rfl); (case hop => first | (apply r_loadNo; (case hx => rfl); (case h => (repeat (fail))); (case hd => (repeat (fail))); (case hn => rfl)) | (apply r_load1; rfl; (apply Cell.own; (case h => (repeat (exact mhd _))); rfl)) | (apply r_loadN; rfl; (apply CellsAt.own; (case h => (repeat (fail)))); rfl)); (case hq => kernel_rfl))
    all_goals (apply dtk 6; (case hi => rfl); (case hop => (apply prd; apply p_fieldAddrB <;> rfl)); (case hq => kernel_rfl))
    all_goals (apply dtk 7; (case hi => rfl); (case hop => first | (apply r_loadNo; (case hx => rfl); (case h => (repeat (fail))); (case hd => (repeat (fail))); (case hn => rfl)) | (apply r_load1; rfl; (apply Cell.own; (case h => (repeat (exact mhd _))); rfl)) | (apply r_loadN; rfl; (apply CellsAt.own; (case h => (repeat (fail)))); rfl)); (case hq => kernel_rfl))
    all_goals (apply dtk 8; (case hi => rfl); (case hop => (apply prd; apply p_move <;> rfl)); (case hq => kernel_rfl))
    all_goals (apply dtk 9; (case hi => rfl); (case hop => (apply prd; apply p_fieldAddrB <;> rfl)); (case hq => kernel_rfl))
    all_goals (apply dtk 10; (case hi => rfl); (case hop => first | (apply r_loadNo; (case hx => rfl); (case h => (repeat (fail))); (case hd => (repeat (fail))); (case hn => rfl)) | (apply r_load1; rfl; (apply Cell.own; (case h => (repeat (first | exact mhd _ | apply mtl))); rfl)) | (apply r_loadN; rfl; (apply CellsAt.own; (case h => (repeat (fail)))); rfl)); (case hq => kernel_rfl))
    all_goals (apply d_callK 11 (hs := hq); (case hi => rfl); (case hr => kernel_rfl); (case ha => rfl); (case hp => first | exact (Pick.perm (by repeat (first | exact Pick.here _ | apply Pick.there))) | fail); (case hd => rfl))
    all_goals (apply dtk 12; (case hi => rfl); (case hop => (apply prd; apply p_build; (case hz => rfl); (case hv => (simp only [List.map_cons, List.map_nil]; repeat (first | with_reducible exact evs_nil | (apply evs_cons; (case h1 => rfl))))); (case hb => (apply bldL; repeat (first | exact bld_nil | (apply bld_cons; (case hpf => rfl); (case hc => rfl); (case hs => rfl); (case hl => rfl); (case ho => ((repeat (first | with_reducible exact ov_nil | apply ov_cons)); done)))))))); (case hq => kernel_rfl))
    all_goals ((apply d_exec0 13; (case hi => rfl); (case hr => kernel_rfl);  (case hop => exact m_mapUpdate (k := 9) (mk := keyS) key rfl rfl rfl (PickA.perm (ν := [(kb, oM)]) (by repeat (first | exact PickA.last | apply PickA.cons))) hMB); rintro _ G4 _ ⟨oM2, hM2, hK2, hG4, rfl⟩; subst G4; refine ⟨(by intro e he; simp only [List.mem_cons, List.not_mem_nil, or_false] at he; rcases he with rfl | rfl | rfl <;> simp), ?_⟩))
    all_goals (apply d_done; (case hr => kernel_rfl))
  all_goals repeat' (first | apply v_seq | apply v_region | apply v_nil | (apply v_pure; (case hop => (apply p_assign <;> rfl)); (case hd => rfl)) | fail)
  all_goals
    (refine v_perm (ν := [(mb, mcO kb act D), (kb, oM2), (b5, _), (b3, _)]) (by apply perm_of_count; intro p; simp only [List.append_eq, List.countP_append, List.countP_cons, List.countP_nil, Nat.zero_add, Nat.add_zero]; try ac_rfl) ?_
     refine v_ret [(mb, mcO kb act D), (kb, oM2)] (outsA1 rfl rfl) (by repeat (first | exact List.nil_sublist _ | apply List.Sublist.cons_cons)) ?_
     have e := hr1 (by first | exact .inl (by assumption) | exact .inr (by assumption))
     exact ⟨rfl, by rw [e], oM2, by rw [e, if_pos rfl]; exact hput L oM2 hp hM2, rfl⟩)
theorem roomB_hit {l : List Pr} {n : Int} (h : hitG ksP l n = true) : roomB l n = true := by unfold roomB; rw [h]; rfl
theorem mapW_with {l : List Pr} (hw : MapW l) {p : Pr} (hk : p.key.size ≤ 200) (hv : p.val.size ≤ 200) (hr : 0 ≤ p.rev ∧ p.rev ≤ 4294967296) (hroom : roomB l (kn p.key) = true) : MapW (withG ksP l p) := by
  obtain ⟨h1, h2, h3, h4⟩ := hw
  refine ⟨withG_rise h1 p, fun x hx => ?_, ?_, fun x hx => ?_⟩
  · rcases withG_mem hx with rfl | hx
    · exact ⟨hk, hv⟩
    · exact h2 x hx
  · have := withG_len h1 p
    unfold roomB at hroom
    rw [this]
    split
    · exact h3
    · rename_i hh
      simp only [Bool.or_eq_true, decide_eq_true_eq] at hroom
      rcases hroom with h | h
      · exact absurd h hh
      · omega
  · rcases withG_mem hx with rfl | hx
    · exact hr
    · exact h4 x hx
theorem withG_in {α : Type} {key : α → Int} {l : List α} {p : α} : p ∈ withG key l p := by unfold withG; simp
theorem findP_with {l : List Pr} (hr : RiseW ksP l) (p : Pr) : findP (withG ksP l p) (kn p.key) = p := by
  have hr2 := withG_rise hr p
  have hh : hitG ksP (withG ksP l p) (kn p.key) = true := (hit_iff hr2).2 ⟨p, withG_in, rfl⟩
  obtain ⟨h1, h2⟩ := findP_hit hr2 hh
  exact rise_same hr2 h1 withG_in h2
theorem revQ_ok (act : Bool) {r : Int} (h : 0 ≤ r ∧ r ≤ 4294967296) : 0 ≤ revQ act r ∧ revQ act r ≤ 4294967296 := by
  unfold revQ nextR
  split <;> omega
def swapS (act : Bool) (l : List Pr) (c : Cm) : List Pr × An :=
  if hitG ksP l (kn c.key) = false then (l, { ans0 c with err := 10 })
  else if (findP l (kn c.key)).val = c.old then (setL act l c.key c.val, { ans0 c with found := true, val := (findP l (kn c.key)).val, rev := revQ act (findP l (kn c.key)).rev })
  else (l, { ans0 c with err := 15, found := true, val := (findP l (kn c.key)).val, rev := (findP l (kn c.key)).rev })
set_option maxHeartbeats 2000000 in
theorem mswap_s {G : GH} {mb kb : Nat} {act : Bool} {D : List Ls} {oM : Obj} {l : List Pr} (c : Cm) (hw : MapW l) (hM : MapP l oM) (hk : c.key.size ≤ 200) (hv : c.val.size ≤ 200) :
    Con Tryz.prog 257 #[.pointer (some ⟨mb, 0, none⟩), .agg c.cells.toArray, .agg (ans0 c).cells.toArray] G [(mb, mcO kb act D), (kb, oM)] (fun r G' μ' => G' = G ∧ r = .agg (swapS act l c).2.cells.toArray ∧ ∃ oM', MapP (swapS act l c).1 oM' ∧ μ' = [(mb, mcO kb act D), (kb, oM')]) := by
  have hset := fun G => mset_s (G := G) (mb := mb) (kb := kb) (act := act) (D := D) c hw hM hk
  have hroom : hitG ksP l (kn c.key) = true → roomB l (kn c.key) = true := roomB_hit
  have hsetL : hitG ksP l (kn c.key) = true → MapW (setL act l c.key c.val) ∧ findP (setL act l c.key c.val) (kn c.key) = ⟨c.key, c.val, revQ act (findP l (kn c.key)).rev⟩ := fun h => by
    unfold setL
    rw [if_pos (roomB_hit h)]
    exact ⟨mapW_with hw hk hv (revQ_ok act (findP_revs hw _)) (roomB_hit h), findP_with hw.1 ⟨c.key, c.val, revQ act (findP l (kn c.key)).rev⟩⟩
  unfold swapS ans0
  obtain ⟨kind, client, seq, key, val, old, node⟩ := c
  simp only at *
  generalize hf : findP l (kn key) = f at *
  generalize hb : hitG ksP l (kn key) = b at *
  generalize revQ act f.rev = rq at *
  generalize setL act l key val = l2 at *
  (refine v_enter Tryz.func257 rfl Tryz.ntmps257 rfl ?_; intro B _)
  repeat' (first | (apply v_box (d := 4) (zs := Cm.cells ⟨kind, client, seq, key, val, old, node⟩); (case hx => rfl); (case hz => rfl); (case hd => rfl); intro b4) | (apply v_box (d := 5) (zs := [.int .i64 client, .int .i64 seq, .int .i64 0, .bool false, .string ByteArray.empty, .int .i64 0]); (case hx => rfl); (case hz => rfl); (case hd => rfl); intro b5) | (apply v_alloc (d := 6); (case hz => rfl); (case hd => rfl); intro b6) | apply v_seq | apply v_region | apply v_nil)
  refine d_start [(b4, .cells (Cm.cells ⟨kind, client, seq, key, val, old, node⟩).toArray 28 (0, 0)), (mb, mcO kb act D), (kb, oM)] (by kernel_rfl) (by kernel_rfl) (by kernel_rfl) (by intro e he; (simp at he; simp [he]; done)) ?_
  all_goals (apply dtk 0; (case hi => rfl); (case hop => (apply prd; apply p_move <;> rfl)); (case hq => kernel_rfl))
  all_goals (apply dtk 1; (case hi => rfl); (case hop => (apply prd; apply p_nilCheck <;> rfl)); (case hq => kernel_rfl))
  all_goals (apply dtk 2; (case hi => rfl); (case hop => (apply prd; apply p_fieldAddrB <;> rfl)); (case hq => kernel_rfl))
  all_goals (apply dtk 3; (case hi => rfl); (case hop => (apply r_load1; rfl; (apply Cell.own; (case h => (repeat (first | exact mhd _ | apply mtl))); rfl))); (case hq => kernel_rfl))
  all_goals (apply dtk 4; (case hi => rfl); (case hop => (apply prd; apply p_fieldAddrB <;> rfl)); (case hq => kernel_rfl))
  all_goals (apply dtk 5; (case hi => rfl); (case hop => (apply r_load1; rfl; (apply Cell.own; (case h => (repeat (exact mhd _))); rfl))); (case hq => kernel_rfl))
  all_goals (apply dtk 6; (case hi => rfl); (case hop => ((apply r_keyOk key f hf b hb hw hM hk; (case hb => repeat (first | exact mhd _ | apply mtl)); (case hx => rfl); (case hi => rfl)))); (case hq => kernel_rfl))
  all_goals (apply dtk 7; (case hi => rfl); (case hop => (apply prd; apply p_move <;> rfl)); (case hq => kernel_rfl))
  all_goals (apply dtk 8; (case hi => rfl); (case hop => (apply prd; apply p_extract0 <;> rfl)); (case hq => kernel_rfl))
  all_goals (apply dtk 9; (case hi => rfl); (case hop => (apply prd; apply p_extract1 <;> rfl)); (case hq => kernel_rfl))
  all_goals (apply d_exec 10; (case hi => rfl); (case hr => kernel_rfl); (case hop => exact m_alloc rfl); (case hd => rfl); rintro _ _ _ ⟨b7, rfl, rfl, rfl⟩; refine ⟨(by intro e he; (simp at he; simp [he]; done)), ?_⟩)
  all_goals (apply d_store 11; (case hi => rfl); (case hr => kernel_rfl); (case hL => infer_instance); (case hp => rfl); (case hx => rfl); (case hc => rfl); (case hsz => rfl); (case h1 => rfl); (case hb => (repeat (exact mhd _))); (case hfit => exact nle rfl); (case hov => ((repeat (first | with_reducible exact ov_nil | apply ov_cons)); done)); (case hu => repeat (exact Upd.here _ _)); (case hν' => intro e he; (simp at he; simp [he]; done)))
  all_goals (apply dtk 12; (case hi => rfl); (case hop => (apply prd; apply p_assign <;> rfl)); (case hq => kernel_rfl))
  all_goals (apply d_done; (case hr => kernel_rfl))
  cases b with
  | false =>
    rw [if_pos rfl]
    repeat' (first | apply v_seq | apply v_region | apply v_nil | apply v_block | (apply v_pure; (case hop => first | (apply p_move <;> rfl) | (apply p_assign <;> rfl) | (apply p_not <;> rfl) | (apply p_fieldAddrB <;> rfl) | fail); (case hd => rfl)) | (apply v_condT; (case hc => rfl)) | (apply v_read; (case hop => (apply r_loadNo; (case hx => rfl); (case h => (repeat (first | exact mhd _ | apply mtl))); (case hd => (repeat (first | with_reducible exact dt_nil | apply dt_here))); (case hn => rfl))); (case hd => rfl)) | (apply v_store; (case hp => rfl); (case hx => rfl); (case hc => rfl); (case hsz => rfl); (case h1 => rfl); (case hb => (repeat (first | exact mhd _ | apply mtl))); (case hfit => exact nle rfl); (case hov => ((repeat (first | with_reducible exact ov_nil | apply ov_cons)); done)); (case hu => repeat (first | exact Upd.here _ _ | apply Upd.there))) | fail)
    refine v_retM [(mb, mcO kb act D), (kb, oM)] (outsM_cell (sz := 6) (vs := [.int .i64 client, .int .i64 seq, .int .i64 10, .bool false, .string ByteArray.empty, .int .i64 0]) (e := 40) rfl rfl (by repeat (first | exact mhd _ | apply mtl)) rfl) (by repeat (first | exact List.Sublist.refl _ | apply List.Sublist.cons)) ⟨rfl, rfl, oM, hM, rfl⟩
  | true =>
    rw [if_neg (by simp)]
    obtain ⟨hw2, hf2⟩ := hsetL rfl
    have hrm := hroom rfl
    rw [hrm] at hset
    clear hsetL hroom hrm
    repeat' (first | apply v_seq | apply v_region | apply v_nil | apply v_block | apply v_blk | (apply v_pure; (case hop => first | (apply p_move <;> rfl) | (apply p_assign <;> rfl) | (apply p_not <;> rfl) | (apply p_fieldAddrB <;> rfl) | (apply p_neS <;> rfl) | fail); (case hd => rfl)) | (apply v_condF; (case hc => rfl)) | (apply v_cond; (case hc => rfl); all_goals (intro h; (try simp only [reduceCtorEq, zzz] at h))) | (apply v_read; (case hop => first | (apply r_loadNo; (case hx => rfl); (case h => (repeat (first | exact mhd _ | apply mtl))); (case hd => (repeat (first | with_reducible exact dt_nil | apply dt_here))); (case hn => rfl)) | (apply r_load1; rfl; (apply Cell.own; (case h => (repeat (first | exact mhd _ | apply mtl))); rfl)) | fail); (case hd => rfl)) | (apply v_store; (case hp => rfl); (case hx => rfl); (case hc => rfl); (case hsz => rfl); (case h1 => rfl); (case hb => (repeat (first | exact mhd _ | apply mtl))); (case hfit => exact nle rfl); (case hov => ((repeat (first | with_reducible exact ov_nil | apply ov_cons)); done)); (case hu => repeat (first | exact Upd.here _ _ | apply Upd.there))) | fail)
    · have hne : ¬ f.val = old := by assumption
      rw [if_neg hne]
      refine d_start [(b7, .cells [.string f.val, .int .i64 f.rev].toArray 142 (0, 0)), (b4, .cells (Cm.cells ⟨kind, client, seq, key, val, old, node⟩).toArray 28 (0, 0)), (mb, mcO kb act D), (kb, oM)] (by kernel_rfl) (by kernel_rfl) (by kernel_rfl) (by (repeat (first | exact List.forall_mem_nil _ | (refine List.forall_mem_cons.2 (And.intro (by repeat (first | exact mhd _ | apply mtl)) ?_))))) ?_
      all_goals (apply dtk 0; (case hi => rfl); (case hop => (apply prd; apply p_fieldAddrB <;> rfl)); (case hq => kernel_rfl))
      all_goals (apply dtk 1; (case hi => rfl); (case hop => (apply r_load1; rfl; (apply Cell.own; (case h => (repeat (exact mhd _))); rfl))); (case hq => kernel_rfl))
      all_goals (apply dtk 2; (case hi => rfl); (case hop => (apply prd; apply p_move <;> rfl)); (case hq => kernel_rfl))
      all_goals (apply dtk 3; (case hi => rfl); (case hop => (apply prd; apply p_nilCheck <;> rfl)); (case hq => kernel_rfl))
      all_goals (apply dtk 4; (case hi => rfl); (case hop => (apply prd; apply p_fieldAddrB <;> rfl)); (case hq => kernel_rfl))
      all_goals (apply dtk 5; (case hi => rfl); (case hop => (apply r_load1; rfl; (apply Cell.own; (case h => (repeat (first | exact mhd _ | apply mtl))); rfl))); (case hq => kernel_rfl))
      all_goals (apply dtk 6; (case hi => rfl); (case hop => (apply prd; apply p_fieldAddrB <;> rfl)); (case hq => kernel_rfl))
      all_goals (apply dtk 7; (case hi => rfl); (case hop => (apply r_load1; rfl; (apply Cell.own; (case h => (repeat (first | exact mhd _ | apply mtl))); rfl))); (case hq => kernel_rfl))
      all_goals (apply dtk 8; (case hi => rfl); (case hop => ((apply r_key key f hf hw hM hk; (case hb => repeat (first | exact mhd _ | apply mtl)); (case hx => rfl); (case hi => rfl)))); (case hq => kernel_rfl))
      all_goals (apply dtk 9; (case hi => rfl); (case hop => (apply prd; apply p_field1 <;> rfl)); (case hq => kernel_rfl))
      all_goals (apply dtk 10; (case hi => rfl); (case hop => (apply prd; apply p_fieldAddrB <;> rfl)); (case hq => kernel_rfl))
      all_goals (apply d_store 11; (case hi => rfl); (case hr => kernel_rfl); (case hL => infer_instance); (case hp => rfl); (case hx => rfl); (case hc => rfl); (case hsz => rfl); (case h1 => rfl); (case hb => (repeat (first | exact mhd _ | apply mtl))); (case hfit => exact nle rfl); (case hov => ((repeat (first | with_reducible exact ov_nil | apply ov_cons)); done)); (case hu => repeat (first | exact Upd.here _ _ | apply Upd.there)); (case hν' => (repeat (first | exact List.forall_mem_nil _ | (refine List.forall_mem_cons.2 (And.intro (by repeat (first | exact mhd _ | apply mtl)) ?_))))))
      all_goals (apply dtk 12; (case hi => rfl); (case hop => (apply prd; apply p_fieldAddrB <;> rfl)); (case hq => kernel_rfl))
      all_goals (apply d_store 13; (case hi => rfl); (case hr => kernel_rfl); (case hL => infer_instance); (case hp => rfl); (case hx => rfl); (case hc => rfl); (case hsz => rfl); (case h1 => rfl); (case hb => (repeat (first | exact mhd _ | apply mtl))); (case hfit => exact nle rfl); (case hov => ((repeat (first | with_reducible exact ov_nil | apply ov_cons)); done)); (case hu => repeat (first | exact Upd.here _ _ | apply Upd.there)); (case hν' => (repeat (first | exact List.forall_mem_nil _ | (refine List.forall_mem_cons.2 (And.intro (by repeat (first | exact mhd _ | apply mtl)) ?_))))))
      all_goals (apply dtk 14; (case hi => rfl); (case hop => (apply prd; apply p_fieldAddrB <;> rfl)); (case hq => kernel_rfl))
      all_goals (apply d_store 15; (case hi => rfl); (case hr => kernel_rfl); (case hL => infer_instance); (case hp => rfl); (case hx => rfl); (case hc => rfl); (case hsz => rfl); (case h1 => rfl); (case hb => (repeat (first | exact mhd _ | apply mtl))); (case hfit => exact nle rfl); (case hov => ((repeat (first | with_reducible exact ov_nil | apply ov_cons)); done)); (case hu => repeat (first | exact Upd.here _ _ | apply Upd.there)); (case hν' => (repeat (first | exact List.forall_mem_nil _ | (refine List.forall_mem_cons.2 (And.intro (by repeat (first | exact mhd _ | apply mtl)) ?_))))))
      all_goals (apply d_done; (case hr => kernel_rfl))
      repeat' (first | apply v_seq | apply v_region | apply v_nil | (apply v_read; (case hop => (apply r_loadNo; (case hx => rfl); (case h => (repeat (first | exact mhd _ | apply mtl))); (case hd => (repeat (first | with_reducible exact dt_nil | apply dt_here))); (case hn => rfl))); (case hd => rfl)) | (apply v_store; (case hp => rfl); (case hx => rfl); (case hc => rfl); (case hsz => rfl); (case h1 => rfl); (case hb => (repeat (first | exact mhd _ | apply mtl))); (case hfit => exact nle rfl); (case hov => ((repeat (first | with_reducible exact ov_nil | apply ov_cons)); done)); (case hu => repeat (first | exact Upd.here _ _ | apply Upd.there))) | fail)
      refine v_retM [(mb, mcO kb act D), (kb, oM)] (outsM_cell (sz := 6) (vs := [.int .i64 client, .int .i64 seq, .int .i64 15, .bool true, .string f.val, .int .i64 f.rev]) (e := 40) rfl rfl (by repeat (first | exact mhd _ | apply mtl)) rfl) (by repeat (first | exact List.Sublist.refl _ | apply List.Sublist.cons)) ⟨rfl, rfl, oM, hM, rfl⟩
    · have he : f.val = old := by assumption
      rw [if_pos he]
      refine v_call (μ1 := [(mb, mcO kb act D), (kb, oM)]) rfl (hset _) (PickA.perm (by repeat (first | exact PickA.last | apply PickA.cons))) rfl ?_
      rintro _ G1 _ - ⟨hG1, rfl, oM2, hM2, rfl⟩
      subst G1
      repeat' (first | apply v_seq | apply v_nil | apply v_blk)
      refine v_perm (ν := [(b7, .cells [.string f.val, .int .i64 f.rev].toArray 142 (0, 0)), (b4, .cells (Cm.cells ⟨kind, client, seq, key, val, old, node⟩).toArray 28 (0, 0)), (b6, .cells [.int .i64 0, .int .i64 0, .int .i64 0, .bool false, .string ByteArray.empty, .int .i64 0].toArray 40 (0, 0)), (b5, .cells ([.int .i64 client, .int .i64 seq, .int .i64 0, .bool false, .string ByteArray.empty, .int .i64 0]).toArray 40 (0, 0)), (mb, mcO kb act D), (kb, oM2)]) (by apply perm_of_count; intro p; simp only [List.append_eq, List.countP_append, List.countP_cons, List.countP_nil, Nat.zero_add, Nat.add_zero]; try ac_rfl) ?_
      refine d_start [(b7, .cells [.string f.val, .int .i64 f.rev].toArray 142 (0, 0)), (b4, .cells (Cm.cells ⟨kind, client, seq, key, val, old, node⟩).toArray 28 (0, 0)), (mb, mcO kb act D), (kb, oM2)] (by kernel_rfl) (by kernel_rfl) (by kernel_rfl) (by (repeat (first | exact List.forall_mem_nil _ | (refine List.forall_mem_cons.2 (And.intro (by repeat (first | exact mhd _ | apply mtl)) ?_))))) ?_
      all_goals (apply dtk 0; (case hi => rfl); (case hop => (apply prd; apply p_fieldAddrB <;> rfl)); (case hq => kernel_rfl))
      all_goals (apply dtk 1; (case hi => rfl); (case hop => (apply r_load1; rfl; (apply Cell.own; (case h => (repeat (exact mhd _))); rfl))); (case hq => kernel_rfl))
      all_goals (apply dtk 2; (case hi => rfl); (case hop => (apply prd; apply p_move <;> rfl)); (case hq => kernel_rfl))
      all_goals (apply dtk 3; (case hi => rfl); (case hop => (apply prd; apply p_nilCheck <;> rfl)); (case hq => kernel_rfl))
      all_goals (apply dtk 4; (case hi => rfl); (case hop => (apply prd; apply p_fieldAddrB <;> rfl)); (case hq => kernel_rfl))
      all_goals (apply dtk 5; (case hi => rfl); (case hop => (apply r_load1; rfl; (apply Cell.own; (case h => (repeat (first | exact mhd _ | apply mtl))); rfl))); (case hq => kernel_rfl))
      all_goals (apply dtk 6; (case hi => rfl); (case hop => (apply prd; apply p_fieldAddrB <;> rfl)); (case hq => kernel_rfl))
      all_goals (apply dtk 7; (case hi => rfl); (case hop => (apply r_load1; rfl; (apply Cell.own; (case h => (repeat (first | exact mhd _ | apply mtl))); rfl))); (case hq => kernel_rfl))
      all_goals (apply dtk 8; (case hi => rfl); (case hop => ((apply r_key key ⟨key, val, rq⟩ hf2 hw2 hM2 hk; (case hb => repeat (first | exact mhd _ | apply mtl)); (case hx => rfl); (case hi => rfl)))); (case hq => kernel_rfl))
      all_goals (apply dtk 9; (case hi => rfl); (case hop => (apply prd; apply p_field1 <;> rfl)); (case hq => kernel_rfl))
      all_goals (apply dtk 10; (case hi => rfl); (case hop => (apply prd; apply p_fieldAddrB <;> rfl)); (case hq => kernel_rfl))
      all_goals (apply d_store 11; (case hi => rfl); (case hr => kernel_rfl); (case hL => infer_instance); (case hp => rfl); (case hx => rfl); (case hc => rfl); (case hsz => rfl); (case h1 => rfl); (case hb => (repeat (first | exact mhd _ | apply mtl))); (case hfit => exact nle rfl); (case hov => ((repeat (first | with_reducible exact ov_nil | apply ov_cons)); done)); (case hu => repeat (first | exact Upd.here _ _ | apply Upd.there)); (case hν' => (repeat (first | exact List.forall_mem_nil _ | (refine List.forall_mem_cons.2 (And.intro (by repeat (first | exact mhd _ | apply mtl)) ?_))))))
      all_goals (apply dtk 12; (case hi => rfl); (case hop => (apply prd; apply p_fieldAddrB <;> rfl)); (case hq => kernel_rfl))
      all_goals (apply d_store 13; (case hi => rfl); (case hr => kernel_rfl); (case hL => infer_instance); (case hp => rfl); (case hx => rfl); (case hc => rfl); (case hsz => rfl); (case h1 => rfl); (case hb => (repeat (first | exact mhd _ | apply mtl))); (case hfit => exact nle rfl); (case hov => ((repeat (first | with_reducible exact ov_nil | apply ov_cons)); done)); (case hu => repeat (first | exact Upd.here _ _ | apply Upd.there)); (case hν' => (repeat (first | exact List.forall_mem_nil _ | (refine List.forall_mem_cons.2 (And.intro (by repeat (first | exact mhd _ | apply mtl)) ?_))))))
      all_goals (apply dtk 14; (case hi => rfl); (case hop => (apply prd; apply p_fieldAddrB <;> rfl)); (case hq => kernel_rfl))
      all_goals (apply d_store 15; (case hi => rfl); (case hr => kernel_rfl); (case hL => infer_instance); (case hp => rfl); (case hx => rfl); (case hc => rfl); (case hsz => rfl); (case h1 => rfl); (case hb => (repeat (first | exact mhd _ | apply mtl))); (case hfit => exact nle rfl); (case hov => ((repeat (first | with_reducible exact ov_nil | apply ov_cons)); done)); (case hu => repeat (first | exact Upd.here _ _ | apply Upd.there)); (case hν' => (repeat (first | exact List.forall_mem_nil _ | (refine List.forall_mem_cons.2 (And.intro (by repeat (first | exact mhd _ | apply mtl)) ?_))))))
      all_goals (apply d_done; (case hr => kernel_rfl))
      repeat' (first | apply v_seq | apply v_region | apply v_nil | (apply v_read; (case hop => (apply r_loadNo; (case hx => rfl); (case h => (repeat (first | exact mhd _ | apply mtl))); (case hd => (repeat (first | with_reducible exact dt_nil | apply dt_here))); (case hn => rfl))); (case hd => rfl)) | (apply v_store; (case hp => rfl); (case hx => rfl); (case hc => rfl); (case hsz => rfl); (case h1 => rfl); (case hb => (repeat (first | exact mhd _ | apply mtl))); (case hfit => exact nle rfl); (case hov => ((repeat (first | with_reducible exact ov_nil | apply ov_cons)); done)); (case hu => repeat (first | exact Upd.here _ _ | apply Upd.there))) | fail)
      refine v_retM [(mb, mcO kb act D), (kb, oM2)] (outsM_cell (sz := 6) (vs := [.int .i64 client, .int .i64 seq, .int .i64 0, .bool true, .string f.val, .int .i64 rq]) (e := 40) rfl rfl (by repeat (first | exact mhd _ | apply mtl)) rfl) (by repeat (first | exact List.Sublist.refl _ | apply List.Sublist.cons)) ⟨rfl, rfl, oM2, hM2, rfl⟩
def freshS (act : Bool) (l : List Pr) (c : Cm) : List Pr × An :=
  if c.kind = 5 then swapS act l c
  else if c.kind = 2 ∧ roomB l (kn c.key) = false then (l, { ans0 c with err := 11 })
  else (if c.kind = 2 then setL act l c.key c.val else if c.kind = 4 then l.filter (fun x => decide (ksP x ≠ kn c.key)) else l, { ans0 c with found := hitG ksP l (kn c.key), val := (findP l (kn c.key)).val })
theorem MapP.del {l : List Pr} {L : List Pr} {o : Obj} {k : ByteArray} (hw : MapW l) (hp : L.Perm l) (hk : k.size ≤ 200) (hM : MapB keyS (mdel (L.map prE) k) o) : MapP (l.filter (fun x => decide (ksP x ≠ kn k))) o := by
  obtain ⟨L', h1, h2⟩ := mdel_prs hp hw.1 hw.2.1 hk
  exact ⟨L', h2, by rw [← h1]; exact hM⟩
set_option maxHeartbeats 2000000 in
theorem mfresh_s {G : GH} {mb kb : Nat} {act : Bool} {D : List Ls} {oM : Obj} {l : List Pr} (c : Cm) (hw : MapW l) (hM : MapP l oM) (hk : c.key.size ≤ 200) (hv : c.val.size ≤ 200) :
    Con Tryz.prog 210 #[.pointer (some ⟨mb, 0, none⟩), .agg c.cells.toArray] G [(mb, mcO kb act D), (kb, oM)] (fun r G' μ' => G' = G ∧ r = .agg (freshS act l c).2.cells.toArray ∧ ∃ oM', MapP (freshS act l c).1 oM' ∧ μ' = [(mb, mcO kb act D), (kb, oM')]) := by
  have hset := fun G => mset_s (G := G) (mb := mb) (kb := kb) (act := act) (D := D) c hw hM hk
  have hswap := fun G => mswap_s (G := G) (mb := mb) (kb := kb) (act := act) (D := D) c hw hM hk hv
  have hdel := fun (L : List Pr) (o : Obj) (hp : L.Perm l) h => MapP.del (o := o) (k := c.key) hw hp hk h
  have hroom : roomB l (kn c.key) = false → setL act l c.key c.val = l := fun h => by unfold setL; rw [h, if_neg (by simp)]
  unfold freshS
  unfold ans0 at *
  obtain ⟨kind, client, seq, key, val, old, node⟩ := c
  simp only at *
  generalize swapS act l ⟨kind, client, seq, key, val, old, node⟩ = sw at *
  generalize hf : findP l (kn key) = f at *
  generalize hb : hitG ksP l (kn key) = b at *
  generalize setL act l key val = l2 at *
  generalize l.filter (fun x => decide (ksP x ≠ kn key)) = l3 at *
  generalize roomB l (kn key) = rm at *
  obtain ⟨L, hp, hMB⟩ := id hM
  obtain ⟨l4, ⟨ac, aq, ae, af, av, ar⟩⟩ := sw
  (refine v_enter Tryz.func210 rfl Tryz.ntmps210 rfl ?_; intro B _)
  repeat' (first | (apply v_box (d := 3) (zs := Cm.cells ⟨kind, client, seq, key, val, old, node⟩); (case hx => rfl); (case hz => rfl); (case hd => rfl); intro b3) | (apply v_alloc (d := 4); (case hz => rfl); (case hd => rfl); intro b4) | (apply v_alloc (d := 5); (case hz => rfl); (case hd => rfl); intro b5) | (apply v_read; (case hop => (apply r_loadNo; (case hx => rfl); (case h => repeat (first | exact mhd _ | apply mtl)); (case hd => rfl); (case hn => rfl))); (case hd => rfl)) | apply v_seq | apply v_region | apply v_nil | apply v_skip | (apply v_pure; (case hop => first | (apply p_move <;> rfl) | (apply p_eq <;> rfl) | (apply p_fieldAddrB <;> rfl) | (apply p_build; (case hz => rfl); (case hv => (simp only [List.map_cons, List.map_nil]; repeat (first | with_reducible exact evs_nil | (apply evs_cons; (case h1 => rfl))))); (case hb => (apply bldL; repeat (first | exact bld_nil | (apply bld_cons; (case hpf => rfl); (case hc => rfl); (case hs => rfl); (case hl => rfl); (case ho => ((repeat (first | with_reducible exact ov_nil | apply ov_cons)); done))))))) | fail); (case hd => rfl)) | (apply v_cond; (case hc => rfl); all_goals (intro h; (try simp only [reduceCtorEq, zzz] at h))) | (apply v_read; (case hop => (apply r_load1; rfl; (apply Cell.own; (case h => (repeat (first | exact mhd _ | apply mtl))); rfl))); (case hd => rfl)) | (apply v_store; (case hp => rfl); (case hx => rfl); (case hc => rfl); (case hsz => rfl); (case h1 => rfl); (case hb => (repeat (exact mhd _))); (case hfit => exact nle rfl); (case hov => ((repeat (first | with_reducible exact ov_nil | apply ov_cons)); done)); (case hu => repeat (exact Upd.here _ _))) | fail)
  · rw [if_pos (by assumption)]
    refine v_call (μ1 := [(mb, mcO kb act D), (kb, oM)]) rfl (hswap _) (PickA.perm (by repeat (first | exact PickA.last | apply PickA.cons))) rfl ?_
    rintro _ G1 _ - ⟨hG1, rfl, oM2, hM2, rfl⟩
    subst G1
    repeat' (first | apply v_nil | (apply v_store; (case hp => rfl); (case hx => rfl); (case hc => rfl); (case hsz => rfl); (case h1 => rfl); (case hb => (repeat (first | exact mhd _ | apply mtl))); (case hfit => exact nle rfl); (case hov => ((repeat (first | with_reducible exact ov_nil | apply ov_cons)); done)); (case hu => repeat (first | exact Upd.here _ _ | apply Upd.there))) | fail)
    refine v_retM [(mb, mcO kb act D), (kb, oM2)] (outsM_cell (sz := 6) (vs := [.int .i64 ac, .int .i64 aq, .int .i64 ae, .bool af, .string av, .int .i64 ar]) (e := 40) rfl rfl (by repeat (first | exact mhd _ | apply mtl)) rfl) (by repeat (first | exact List.nil_sublist _ | apply List.Sublist.cons_cons)) ⟨rfl, rfl, oM2, hM2, rfl⟩
  · have h5 : ¬ kind = 5 := by assumption
    rw [if_neg h5]
    refine v_perm (ν := [(b4, .cells [.int .i64 0, .int .i64 0, .int .i64 0, .bool false, .string ByteArray.empty, .int .i64 0].toArray 40 (0, 0)), (b5, .cells ([.int .i64 client, .int .i64 seq, .int .i64 0, .bool false, .string ByteArray.empty, .int .i64 0]).toArray 40 (0, 0)), (b3, .cells (Cm.cells ⟨kind, client, seq, key, val, old, node⟩).toArray 28 (0, 0)), (mb, mcO kb act D), (kb, oM)]) (by apply perm_of_count; intro p; simp only [List.append_eq, List.countP_append, List.countP_cons, List.countP_nil, Nat.zero_add, Nat.add_zero]; try ac_rfl) ?_
    refine d_start [(b3, .cells (Cm.cells ⟨kind, client, seq, key, val, old, node⟩).toArray 28 (0, 0)), (mb, mcO kb act D), (kb, oM)] (by kernel_rfl) (by kernel_rfl) (by kernel_rfl) (by intro e he; (simp at he; simp [he]; done)) ?_
    all_goals (apply dtk 0; (case hi => rfl); (case hop => (apply prd; apply p_move <;> rfl)); (case hq => kernel_rfl))
    all_goals (apply dtk 1; (case hi => rfl); (case hop => (apply prd; apply p_nilCheck <;> rfl)); (case hq => kernel_rfl))
    all_goals (apply dtk 2; (case hi => rfl); (case hop => (apply prd; apply p_fieldAddrB <;> rfl)); (case hq => kernel_rfl))
    all_goals (apply dtk 3; (case hi => rfl); (case hop => (apply r_load1; rfl; (apply Cell.own; (case h => (repeat (first | exact mhd _ | apply mtl))); rfl))); (case hq => kernel_rfl))
    all_goals (apply dtk 4; (case hi => rfl); (case hop => (apply prd; apply p_fieldAddrB <;> rfl)); (case hq => kernel_rfl))
    all_goals (apply dtk 5; (case hi => rfl); (case hop => (apply r_load1; rfl; (apply Cell.own; (case h => (repeat (exact mhd _))); rfl))); (case hq => kernel_rfl))
    all_goals (apply dtk 6; (case hi => rfl); (case hop => ((apply r_keyOk key f hf b hb hw hM hk; (case hb => repeat (first | exact mhd _ | apply mtl)); (case hx => rfl); (case hi => rfl)))); (case hq => kernel_rfl))
    all_goals (apply dtk 7; (case hi => rfl); (case hop => (apply prd; apply p_move <;> rfl)); (case hq => kernel_rfl))
    all_goals (apply dtk 8; (case hi => rfl); (case hop => (apply prd; apply p_extract0 <;> rfl)); (case hq => kernel_rfl))
    all_goals (apply dtk 9; (case hi => rfl); (case hop => (apply prd; apply p_extract1 <;> rfl)); (case hq => kernel_rfl))
    all_goals (apply d_exec 10; (case hi => rfl); (case hr => kernel_rfl); (case hop => exact m_alloc rfl); (case hd => rfl); rintro _ _ _ ⟨b6, rfl, rfl, rfl⟩; refine ⟨(by intro e he; (simp at he; simp [he]; done)), ?_⟩)
    all_goals (apply d_store 11; (case hi => rfl); (case hr => kernel_rfl); (case hL => infer_instance); (case hp => rfl); (case hx => rfl); (case hc => rfl); (case hsz => rfl); (case h1 => rfl); (case hb => (repeat (exact mhd _))); (case hfit => exact nle rfl); (case hov => ((repeat (first | with_reducible exact ov_nil | apply ov_cons)); done)); (case hu => repeat (exact Upd.here _ _)); (case hν' => intro e he; (simp at he; simp [he]; done)))
    all_goals (apply dtk 12; (case hi => rfl); (case hop => (apply prd; apply p_assign <;> rfl)); (case hq => kernel_rfl))
    all_goals (apply d_done; (case hr => kernel_rfl))
    by_cases h2 : kind = 2
    · repeat' (first | (apply v_read; (case hop => (apply r_loadNo; (case hx => rfl); (case h => repeat (first | exact mhd _ | apply mtl)); (case hd => rfl); (case hn => rfl))); (case hd => rfl)) | apply v_seq | apply v_region | (apply v_take; (case hg => rfl)) | (apply v_pure; (case hop => first | (apply p_move <;> rfl) | (apply p_eq <;> rfl) | (apply p_fieldAddrB <;> rfl) | fail); (case hd => rfl)) | (apply v_guardB; (case h1 => rfl); (case h2 => rfl); all_goals (intro h; (try simp only [reduceCtorEq, zzz] at h); first | (exfalso; omega) | skip)) | (apply v_read; (case hop => (apply r_load1; rfl; (apply Cell.own; (case h => (repeat (first | exact mhd _ | apply mtl))); rfl))); (case hd => rfl)) | fail)
      refine v_call (μ1 := [(mb, mcO kb act D), (kb, oM)]) rfl (hset _) (PickA.perm (by repeat (first | exact PickA.last | apply PickA.cons))) rfl ?_
      rintro _ G1 _ - ⟨hG1, rfl, oM2, hM2, rfl⟩
      subst G1
      cases rm with
      | false =>
        rw [if_pos ⟨h2, rfl⟩]
        rw [hroom rfl] at hM2
        repeat' (first | apply v_seq | apply v_region | apply v_nil | (apply v_take; (case hg => rfl)) | (apply v_pure; (case hop => first | (apply p_pickT <;> rfl) | (apply p_not <;> rfl) | (apply p_fieldAddrB <;> rfl) | fail); (case hd => rfl)) | (apply v_condT; (case hc => rfl)) | (apply v_read; (case hop => (apply r_loadNo; (case hx => rfl); (case h => (repeat (first | exact mhd _ | apply mtl))); (case hd => (repeat (first | with_reducible exact dt_nil | apply dt_here))); (case hn => rfl))); (case hd => rfl)) | (apply v_store; (case hp => rfl); (case hx => rfl); (case hc => rfl); (case hsz => rfl); (case h1 => rfl); (case hb => (repeat (first | exact mhd _ | apply mtl))); (case hfit => exact nle rfl); (case hov => ((repeat (first | with_reducible exact ov_nil | apply ov_cons)); done)); (case hu => repeat (first | exact Upd.here _ _ | apply Upd.there))) | fail)
        refine v_retM [(mb, mcO kb act D), (kb, oM2)] (outsM_cell (sz := 6) (vs := [.int .i64 client, .int .i64 seq, .int .i64 11, .bool false, .string ByteArray.empty, .int .i64 0]) (e := 40) rfl rfl (by repeat (first | exact mhd _ | apply mtl)) rfl) (by repeat (first | exact List.nil_sublist _ | apply List.Sublist.cons_cons)) ⟨rfl, rfl, oM2, hM2, rfl⟩
      | true =>
        rw [if_neg (by simp), if_pos h2]
        repeat' (first | apply v_seq | apply v_region | apply v_nil | apply v_skip | (apply v_take; (case hg => rfl)) | (apply v_pure; (case hop => first | (apply p_eq <;> rfl) | (apply p_pickT <;> rfl) | (apply p_not <;> rfl) | (apply p_fieldAddrB <;> rfl) | fail); (case hd => rfl)) | (apply v_condF; (case hc => rfl)) | (apply v_cond; (case hc => rfl); all_goals (intro h; (try simp only [reduceCtorEq, zzz] at h); first | (exfalso; omega) | skip)) | (apply v_read; (case hop => (apply r_load1; rfl; (apply Cell.own; (case h => (repeat (first | exact mhd _ | apply mtl))); rfl))); (case hd => rfl)) | fail)
        refine d_start [(b6, .cells [.string f.val, .int .i64 f.rev].toArray 142 (0, 0))] (by kernel_rfl) (by kernel_rfl) (by kernel_rfl) (by intro e he; (simp at he; simp [he]; done)) ?_
        all_goals (apply dtk 0; (case hi => rfl); (case hop => (apply prd; apply p_move <;> rfl)); (case hq => kernel_rfl))
        all_goals (apply dtk 1; (case hi => rfl); (case hop => (apply prd; apply p_fieldAddrB <;> rfl)); (case hq => kernel_rfl))
        all_goals (apply dtk 2; (case hi => rfl); (case hop => first | (apply r_loadNo; (case hx => rfl); (case h => (repeat (fail))); (case hd => (repeat (fail))); (case hn => rfl)) | (apply r_load1; rfl; (apply Cell.own; (case h => (repeat (exact mhd _))); rfl)) | (apply r_loadN; rfl; (apply CellsAt.own; (case h => (repeat (fail)))); rfl)); (case hq => kernel_rfl))
        all_goals (apply dtk 3; (case hi => rfl); (case hop => (apply prd; apply p_fieldAddrB <;> rfl)); (case hq => kernel_rfl))
        all_goals (apply d_store 4; (case hi => rfl); (case hr => kernel_rfl); (case hL => infer_instance); (case hp => rfl); (case hx => rfl); (case hc => rfl); (case hsz => rfl); (case h1 => rfl); (case hb => (repeat (first | exact mhd _ | apply mtl))); (case hfit => exact nle rfl); (case hov => ((repeat (first | with_reducible exact ov_nil | apply ov_cons)); done)); (case hu => repeat (first | exact Upd.here _ _ | apply Upd.there)); (case hν' => intro e he; (simp at he; simp [he]; done)))
        all_goals (apply dtk 5; (case hi => rfl); (case hop => (apply prd; apply p_fieldAddrB <;> rfl)); (case hq => kernel_rfl))
        all_goals (apply d_store 6; (case hi => rfl); (case hr => kernel_rfl); (case hL => infer_instance); (case hp => rfl); (case hx => rfl); (case hc => rfl); (case hsz => rfl); (case h1 => rfl); (case hb => (repeat (first | exact mhd _ | apply mtl))); (case hfit => exact nle rfl); (case hov => ((repeat (first | with_reducible exact ov_nil | apply ov_cons)); done)); (case hu => repeat (first | exact Upd.here _ _ | apply Upd.there)); (case hν' => intro e he; (simp at he; simp [he]; done)))
        all_goals (apply d_done; (case hr => kernel_rfl))
        repeat' (first | apply v_seq | apply v_region | apply v_nil | (apply v_read; (case hop => (apply r_loadNo; (case hx => rfl); (case h => (repeat (first | exact mhd _ | apply mtl))); (case hd => (repeat (first | with_reducible exact dt_nil | apply dt_here))); (case hn => rfl))); (case hd => rfl)) | (apply v_store; (case hp => rfl); (case hx => rfl); (case hc => rfl); (case hsz => rfl); (case h1 => rfl); (case hb => (repeat (first | exact mhd _ | apply mtl))); (case hfit => exact nle rfl); (case hov => ((repeat (first | with_reducible exact ov_nil | apply ov_cons)); done)); (case hu => repeat (first | exact Upd.here _ _ | apply Upd.there))) | fail)
        refine v_retM [(mb, mcO kb act D), (kb, oM2)] (outsM_cell (sz := 6) (vs := [.int .i64 client, .int .i64 seq, .int .i64 0, .bool b, .string f.val, .int .i64 0]) (e := 40) rfl rfl (by repeat (first | exact mhd _ | apply mtl)) rfl) (by repeat (first | exact List.nil_sublist _ | apply List.Sublist.cons_cons)) ⟨rfl, rfl, oM2, hM2, rfl⟩
    · rw [if_neg (fun h => h2 h.1), if_neg h2]
      repeat' (first | apply v_seq | apply v_region | apply v_nil | apply v_skip | (apply v_pass; (case hg => rfl); (case hn => rfl); (case hd => rfl)) | (apply v_pure; (case hop => first | (apply p_move <;> rfl) | (apply p_eq <;> rfl) | (apply p_pickF <;> rfl) | (apply p_fieldAddrB <;> rfl) | fail); (case hd => rfl)) | (apply v_condF; (case hc => rfl)) | (apply v_cond; (case hc => rfl); all_goals (intro h; (try simp only [reduceCtorEq, zzz] at h))) | (apply v_guardB; (case h1 => rfl); (case h2 => rfl); all_goals (intro h; (try simp only [reduceCtorEq, zzz] at h); first | (exfalso; omega) | skip)) | (apply v_read; (case hop => (apply r_load1; rfl; (apply Cell.own; (case h => (repeat (first | exact mhd _ | apply mtl))); rfl))); (case hd => rfl)) | fail)
      · have h4 : kind = 4 := by assumption
        rw [if_pos h4]
        refine d_start [(b3, .cells (Cm.cells ⟨kind, client, seq, key, val, old, node⟩).toArray 28 (0, 0)), (mb, mcO kb act D)] (by kernel_rfl) (by kernel_rfl) (by kernel_rfl) (by intro e he; (simp only [List.mem_cons, List.not_mem_nil, or_false] at he; rcases he with rfl | rfl <;> simp; done)) ?_
        all_goals (apply dtk 0; (case hi => rfl); (case hop => (apply prd; apply p_move <;> rfl)); (case hq => kernel_rfl))
        all_goals (apply dtk 1; (case hi => rfl); (case hop => (apply prd; apply p_nilCheck <;> rfl)); (case hq => kernel_rfl))
        all_goals (apply dtk 2; (case hi => rfl); (case hop => (apply prd; apply p_fieldAddrB <;> rfl)); (case hq => kernel_rfl))
        all_goals (apply dtk 3; (case hi => rfl); (case hop => first | (apply r_loadNo; (case hx => rfl); (case h => (repeat (fail))); (case hd => (repeat (fail))); (case hn => rfl)) | (apply r_load1; rfl; (apply Cell.own; (case h => (repeat (first | exact mhd _ | apply mtl))); rfl)) | (apply r_loadN; rfl; (apply CellsAt.own; (case h => (repeat (fail)))); rfl)); (case hq => kernel_rfl))
        all_goals (apply dtk 4; (case hi => rfl); (case hop => (apply prd; apply p_fieldAddrB <;> rfl)); (case hq => kernel_rfl))
        all_goals (apply dtk 5; (case hi => rfl); (case hop => first | (apply r_loadNo; (case hx => rfl); (case h => (repeat (fail))); (case hd => (repeat (fail))); (case hn => rfl)) | (apply r_load1; rfl; (apply Cell.own; (case h => (repeat (exact mhd _))); rfl)) | (apply r_loadN; rfl; (apply CellsAt.own; (case h => (repeat (fail)))); rfl)); (case hq => kernel_rfl))
        all_goals ((apply d_exec0 6; (case hi => rfl); (case hr => kernel_rfl);  (case hop => exact m_delete (k := 9) (mk := keyS) key rfl rfl (PickA.perm (ν := [(kb, oM)]) (by repeat (first | exact PickA.last | apply PickA.cons))) hMB); rintro _ G4 _ ⟨-, oM2, hM2, hK2, hG4, rfl⟩; subst G4; refine ⟨(by intro e he; simp only [List.mem_cons, List.not_mem_nil, or_false] at he; rcases he with rfl | rfl <;> simp), ?_⟩))
        all_goals (apply d_done; (case hr => kernel_rfl))
        repeat' (first | apply v_seq)
        refine d_start [(b6, .cells [.string f.val, .int .i64 f.rev].toArray 142 (0, 0))] (by kernel_rfl) (by kernel_rfl) (by kernel_rfl) (by intro e he; (simp at he; simp [he]; done)) ?_
        all_goals (apply dtk 0; (case hi => rfl); (case hop => (apply prd; apply p_move <;> rfl)); (case hq => kernel_rfl))
        all_goals (apply dtk 1; (case hi => rfl); (case hop => (apply prd; apply p_fieldAddrB <;> rfl)); (case hq => kernel_rfl))
        all_goals (apply dtk 2; (case hi => rfl); (case hop => first | (apply r_loadNo; (case hx => rfl); (case h => (repeat (fail))); (case hd => (repeat (fail))); (case hn => rfl)) | (apply r_load1; rfl; (apply Cell.own; (case h => (repeat (exact mhd _))); rfl)) | (apply r_loadN; rfl; (apply CellsAt.own; (case h => (repeat (fail)))); rfl)); (case hq => kernel_rfl))
        all_goals (apply dtk 3; (case hi => rfl); (case hop => (apply prd; apply p_fieldAddrB <;> rfl)); (case hq => kernel_rfl))
        all_goals (apply d_store 4; (case hi => rfl); (case hr => kernel_rfl); (case hL => infer_instance); (case hp => rfl); (case hx => rfl); (case hc => rfl); (case hsz => rfl); (case h1 => rfl); (case hb => (repeat (first | exact mhd _ | apply mtl))); (case hfit => exact nle rfl); (case hov => ((repeat (first | with_reducible exact ov_nil | apply ov_cons)); done)); (case hu => repeat (first | exact Upd.here _ _ | apply Upd.there)); (case hν' => intro e he; (simp at he; simp [he]; done)))
        all_goals (apply dtk 5; (case hi => rfl); (case hop => (apply prd; apply p_fieldAddrB <;> rfl)); (case hq => kernel_rfl))
        all_goals (apply d_store 6; (case hi => rfl); (case hr => kernel_rfl); (case hL => infer_instance); (case hp => rfl); (case hx => rfl); (case hc => rfl); (case hsz => rfl); (case h1 => rfl); (case hb => (repeat (first | exact mhd _ | apply mtl))); (case hfit => exact nle rfl); (case hov => ((repeat (first | with_reducible exact ov_nil | apply ov_cons)); done)); (case hu => repeat (first | exact Upd.here _ _ | apply Upd.there)); (case hν' => intro e he; (simp at he; simp [he]; done)))
        all_goals (apply d_done; (case hr => kernel_rfl))
        repeat' (first | apply v_seq | apply v_region | apply v_nil | (apply v_read; (case hop => (apply r_loadNo; (case hx => rfl); (case h => (repeat (first | exact mhd _ | apply mtl))); (case hd => (repeat (first | with_reducible exact dt_nil | apply dt_here))); (case hn => rfl))); (case hd => rfl)) | (apply v_store; (case hp => rfl); (case hx => rfl); (case hc => rfl); (case hsz => rfl); (case h1 => rfl); (case hb => (repeat (first | exact mhd _ | apply mtl))); (case hfit => exact nle rfl); (case hov => ((repeat (first | with_reducible exact ov_nil | apply ov_cons)); done)); (case hu => repeat (first | exact Upd.here _ _ | apply Upd.there))) | fail)
        refine v_perm (ν := [(mb, mcO kb act D), (kb, oM2), (b4, .cells [.int .i64 client, .int .i64 seq, .int .i64 0, .bool b, .string f.val, .int .i64 0].toArray 40 (0, 0)), (b5, _), (b3, _), (b6, _)]) (by apply perm_of_count; intro p; simp only [List.append_eq, List.countP_append, List.countP_cons, List.countP_nil, Nat.zero_add, Nat.add_zero]; try ac_rfl) ?_
        refine v_retM [(mb, mcO kb act D), (kb, oM2)] (outsM_cell (sz := 6) (vs := [.int .i64 client, .int .i64 seq, .int .i64 0, .bool b, .string f.val, .int .i64 0]) (e := 40) rfl rfl (by repeat (first | exact mhd _ | apply mtl)) rfl) (by repeat (first | exact List.nil_sublist _ | apply List.Sublist.cons_cons)) ⟨rfl, rfl, oM2, hdel L oM2 hp hM2, rfl⟩
      · rw [if_neg (by assumption)]
        refine d_start [(b6, .cells [.string f.val, .int .i64 f.rev].toArray 142 (0, 0))] (by kernel_rfl) (by kernel_rfl) (by kernel_rfl) (by intro e he; (simp at he; simp [he]; done)) ?_
        all_goals (apply dtk 0; (case hi => rfl); (case hop => (apply prd; apply p_move <;> rfl)); (case hq => kernel_rfl))
        all_goals (apply dtk 1; (case hi => rfl); (case hop => (apply prd; apply p_fieldAddrB <;> rfl)); (case hq => kernel_rfl))
        all_goals (apply dtk 2; (case hi => rfl); (case hop => first | (apply r_loadNo; (case hx => rfl); (case h => (repeat (fail))); (case hd => (repeat (fail))); (case hn => rfl)) | (apply r_load1; rfl; (apply Cell.own; (case h => (repeat (exact mhd _))); rfl)) | (apply r_loadN; rfl; (apply CellsAt.own; (case h => (repeat (fail)))); rfl)); (case hq => kernel_rfl))
        all_goals (apply dtk 3; (case hi => rfl); (case hop => (apply prd; apply p_fieldAddrB <;> rfl)); (case hq => kernel_rfl))
        all_goals (apply d_store 4; (case hi => rfl); (case hr => kernel_rfl); (case hL => infer_instance); (case hp => rfl); (case hx => rfl); (case hc => rfl); (case hsz => rfl); (case h1 => rfl); (case hb => (repeat (first | exact mhd _ | apply mtl))); (case hfit => exact nle rfl); (case hov => ((repeat (first | with_reducible exact ov_nil | apply ov_cons)); done)); (case hu => repeat (first | exact Upd.here _ _ | apply Upd.there)); (case hν' => intro e he; (simp at he; simp [he]; done)))
        all_goals (apply dtk 5; (case hi => rfl); (case hop => (apply prd; apply p_fieldAddrB <;> rfl)); (case hq => kernel_rfl))
        all_goals (apply d_store 6; (case hi => rfl); (case hr => kernel_rfl); (case hL => infer_instance); (case hp => rfl); (case hx => rfl); (case hc => rfl); (case hsz => rfl); (case h1 => rfl); (case hb => (repeat (first | exact mhd _ | apply mtl))); (case hfit => exact nle rfl); (case hov => ((repeat (first | with_reducible exact ov_nil | apply ov_cons)); done)); (case hu => repeat (first | exact Upd.here _ _ | apply Upd.there)); (case hν' => intro e he; (simp at he; simp [he]; done)))
        all_goals (apply d_done; (case hr => kernel_rfl))
        repeat' (first | apply v_seq | apply v_region | apply v_nil | (apply v_read; (case hop => (apply r_loadNo; (case hx => rfl); (case h => (repeat (first | exact mhd _ | apply mtl))); (case hd => (repeat (first | with_reducible exact dt_nil | apply dt_here))); (case hn => rfl))); (case hd => rfl)) | (apply v_store; (case hp => rfl); (case hx => rfl); (case hc => rfl); (case hsz => rfl); (case h1 => rfl); (case hb => (repeat (first | exact mhd _ | apply mtl))); (case hfit => exact nle rfl); (case hov => ((repeat (first | with_reducible exact ov_nil | apply ov_cons)); done)); (case hu => repeat (first | exact Upd.here _ _ | apply Upd.there))) | fail)
        refine v_retM [(mb, mcO kb act D), (kb, oM)] (outsM_cell (sz := 6) (vs := [.int .i64 client, .int .i64 seq, .int .i64 0, .bool b, .string f.val, .int .i64 0]) (e := 40) rfl rfl (by repeat (first | exact mhd _ | apply mtl)) rfl) (by repeat (first | exact List.Sublist.refl _ | apply List.Sublist.cons)) ⟨rfl, rfl, oM, hM, rfl⟩
end Go.Proofs.YtmdeeokejdkceaaGreatDoor
