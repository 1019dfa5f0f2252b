/-
  cmd (layer 8), the sixth part: what a reader reads of a command.
-/
import Derived.Test.YtnoiahlpmgbhfaaDoorM3
import Derived.Test.YtnoiahlpmgbhfaaDoorM2
import Derived.Lib.AppendStr
set_option linter.unusedSimpArgs false
set_option linter.unusedVariables false
namespace Go.Proofs.YtnoiahlpmgbhfaaDoor
open Go.Vx Go.ChangeShapes Go.WideShapes Go.ChangeAt Go.RowKit
/-- A part that is read. -/
def Cm.setP (c : Cm) (j : Nat) (s : Option (List Int)) : Cm := match j with
  | 0 => { c with client := numV 9223372036854775807 s }
  | 1 => { c with seq := numV 9223372036854775807 s }
  | 2 => { c with key := strL (rawB 1048576 s) }
  | 3 => { c with old := strL (rawB 1048576 s) }
  | 4 => { c with val := strL (rawB 1048576 s) }
  | _ => { c with node := numV 9223372036854775807 s }
def partS (j : Nat) (s : Option (List Int)) : Option (List Int) := if isNum j then numS 9223372036854775807 s else rawS 1048576 s
theorem read_s {G : GH} {l : List Int} {bv : Value} {s : Option (List Int)} (c : Cm) (rb cb a j : Nat) (no : Int) (hj : j < 6) (hs : Sl G 1 (IntR .u8) bv l) (hl : l.length ≤ 1048576) (hr : RdS l a no s) :
    Con Tryd.prog 92 #[.agg (partL j).toArray, .pointer (some ⟨rb, 0, none⟩), .pointer (some ⟨cb, 0, none⟩)] G [(rb, rdO bv a no), (cb, .cells c.cells.toArray 27 (0, 0))]
      (fun r G' μ' => ∃ a' no', μ' = [(rb, rdO bv (a' : Nat) no'), (cb, .cells (c.setP j s).cells.toArray 27 (0, 0))] ∧ RdS l a' no' (partS j s)) := by
  have qn := rdNumber_s rb a no 9223372036854775807 hs hl hr
  have qt := rdText_s rb a no 1048576 hs hl hr
  refine v_enter Tryd.func92 rfl Tryd.ntmps92 rfl (fun B => ?_)
  obtain rfl | rfl | rfl | rfl | rfl | rfl : j = 0 ∨ j = 1 ∨ j = 2 ∨ j = 3 ∨ j = 4 ∨ j = 5 := by omega
  all_goals
    (simp only [Cm.setP, partS, isNum, Nat.reduceBEq, Bool.or_self, Bool.or_true, Bool.true_or, Bool.or_false, Bool.false_or, if_true, if_false, reduceCtorEq, Bool.false_eq_true])
  all_goals
    repeat' (first | apply v_seq | apply v_region | apply v_nil | apply v_skip | (apply v_pure; (case hop => first | (apply p_move <;> rfl) | (apply p_assign <;> rfl) | (apply p_fieldAddrB <;> rfl) | (apply p_extract0 <;> rfl) | (apply p_extract1 <;> rfl) | (apply p_assertOk <;> rfl) | (apply p_assertNo <;> rfl)); (case hd => rfl)) | (apply v_condT; (case hc => rfl)) | (apply v_condF; (case hc => rfl)) | (apply v_callFJ0 (hs := at1_s _ cb); (case hx => rfl); (case ha => rfl); (case hd => rfl)) | (apply v_callFJ0 (hs := at2_s _ cb); (case hx => rfl); (case ha => rfl); (case hd => rfl)) | (apply v_callFJ0 (hs := at3_s _ cb); (case hx => rfl); (case ha => rfl); (case hd => rfl)) | (apply v_callFJ0 (hs := at4_s _ cb); (case hx => rfl); (case ha => rfl); (case hd => rfl)) | (apply v_callFJ0 (hs := at5_s _ cb); (case hx => rfl); (case ha => rfl); (case hd => rfl)) | (apply v_callFJ0 (hs := at6_s _ cb); (case hx => rfl); (case ha => rfl); (case hd => rfl)) | (apply v_read; (case hop => (apply r_load1; rfl; (apply Cell.own; (case h => (repeat (exact List.Mem.head _))); rfl))); (case hd => rfl)) | (apply v_box; (case hx => rfl); (case hz => rfl); (case hd => rfl); intro b))
  · refine v_call (μ1 := [(rb, _)]) (μ2 := _) rfl qn (PickA.perm (by repeat (first | exact PickA.here _ | apply PickA.cons))) rfl ?_
    rintro _ _ _ hle ⟨rfl, rfl, a', no', rfl, hr'⟩
    repeat' (first | apply v_nil | (apply v_pure; (case hop => (apply p_nilCheck <;> rfl)); (case hd => rfl)) | (apply v_store; (case hp => rfl); (case hx => rfl); (case hc => rfl); (case hsz => rfl); (case h1 => rfl); (case hb => (repeat (first | exact List.Mem.head _ | apply List.Mem.tail))); (case hfit => (exact Nat.le_of_ble_eq_true rfl)); (case hov => (((repeat (first | with_reducible exact ov_nil | apply ov_cons)); done))); (case hu => repeat (first | exact Upd.here _ _ | apply Upd.there))))
    refine v_ret [(rb, _), (cb, _)] (outsA0 rfl) (by repeat (first | exact List.Sublist.refl _ | apply List.Sublist.cons_cons | apply List.Sublist.cons)) ?_
    exact ⟨a', no', rfl, hr'⟩
  · refine v_call (μ1 := [(rb, _)]) (μ2 := _) rfl qn (PickA.perm (by repeat (first | exact PickA.here _ | apply PickA.cons))) rfl ?_
    rintro _ _ _ hle ⟨rfl, rfl, a', no', rfl, hr'⟩
    repeat' (first | apply v_nil | (apply v_pure; (case hop => (apply p_nilCheck <;> rfl)); (case hd => rfl)) | (apply v_store; (case hp => rfl); (case hx => rfl); (case hc => rfl); (case hsz => rfl); (case h1 => rfl); (case hb => (repeat (first | exact List.Mem.head _ | apply List.Mem.tail))); (case hfit => (exact Nat.le_of_ble_eq_true rfl)); (case hov => (((repeat (first | with_reducible exact ov_nil | apply ov_cons)); done))); (case hu => repeat (first | exact Upd.here _ _ | apply Upd.there))))
    refine v_ret [(rb, _), (cb, _)] (outsA0 rfl) (by repeat (first | exact List.Sublist.refl _ | apply List.Sublist.cons_cons | apply List.Sublist.cons)) ?_
    exact ⟨a', no', rfl, hr'⟩
  · refine d_start [(b, .cells (partL 2).toArray 113 (0, 0))] (by kernel_rfl) (by kernel_rfl) (by intro e he; (simp at he; simp [he])) ?_
    all_goals ((apply d_take 0; (case hi => rfl); (case hop => (apply PureOp.read; apply p_fieldAddrB <;> rfl)); (case hf => kernel_rfl); (case hr => kernel_rfl); (case hd => rfl)))
    all_goals ((apply d_take 1; (case hi => rfl); (case hop => first   | (apply r_loadNo; (case hx => rfl); (case h => (repeat (fail))); (case hd => (repeat (fail))); (case hn => rfl)) | (apply r_load1; rfl; (apply Cell.own; (case h => (repeat (exact List.Mem.head _))); rfl)) | (apply r_loadN; rfl; (apply CellsAt.own; (case h => (repeat (fail)))); rfl)); (case hf => kernel_rfl); (case hr => kernel_rfl); (case hd => rfl)))
    all_goals ((apply d_take 2; (case hi => rfl); (case hop => (apply PureOp.read; apply p_move <;> rfl)); (case hf => kernel_rfl); (case hr => kernel_rfl); (case hd => rfl)))
    all_goals ((apply d_take 5; (case hi => rfl); (case hop => (apply PureOp.read; apply p_move <;> rfl)); (case hf => kernel_rfl); (case hr => kernel_rfl); (case hd => rfl)))
    all_goals ((apply d_callJ0 3 (hs := (at3_s _ cb)); (case hi => rfl); (case hr => kernel_rfl); (case hx => rfl); (case ha => rfl); (case hd => rfl)))
    all_goals ((apply d_take 4; (case hi => rfl); (case hop => ((apply PureOp.read; apply p_assert1; (case hd => rfl); (case hx => rfl)))); (case hf => kernel_rfl); (case hr => kernel_rfl); (case hd => rfl)))
    all_goals (((apply d_call 6 (hs := qt); (case hi => rfl); (case hr => kernel_rfl);  (case ha => rfl); (case hp => exact PickA.perm (by repeat (first | exact PickA.here _ | apply PickA.cons))); (case hd => rfl); (case hν' => intro e he; simp at he; simp [he]); rintro _ G1 _ hle ⟨rfl, a', no', rfl, hr'⟩)))
    all_goals ((apply d_take 7; (case hi => rfl); (case hop => (apply PureOp.read; apply p_nilCheck <;> rfl)); (case hf => kernel_rfl); (case hr => kernel_rfl); (case hd => rfl)))
    all_goals ((apply d_store 8; (case hi => rfl); (case hr => kernel_rfl); (case hL => infer_instance); (case hp => rfl); (case hx => rfl); (case hc => rfl); (case hsz => rfl); (case h1 => rfl); (case hb => (repeat (first | exact List.Mem.head _ | apply List.Mem.tail))); (case hfit => (exact Nat.le_of_ble_eq_true rfl)); (case hov => (((repeat (first | with_reducible exact ov_nil | apply ov_cons)); done))); (case hu => repeat (first | exact Upd.here _ _ | apply Upd.there)); (case hν' => intro e he; (simp at he; simp [he]))))
    all_goals (apply d_done; (case hr => kernel_rfl))
    repeat' (fail)
    refine v_end [(rb, _), (cb, _)] (outsA0 rfl) (by repeat (first | exact List.Sublist.refl _ | apply List.Sublist.cons_cons | apply List.Sublist.cons)) ?_
    exact ⟨a', no', rfl, hr'⟩
  · refine d_start [(b, .cells (partL 3).toArray 113 (0, 0))] (by kernel_rfl) (by kernel_rfl) (by intro e he; (simp at he; simp [he])) ?_
    all_goals ((apply d_take 0; (case hi => rfl); (case hop => (apply PureOp.read; apply p_fieldAddrB <;> rfl)); (case hf => kernel_rfl); (case hr => kernel_rfl); (case hd => rfl)))
    all_goals ((apply d_take 1; (case hi => rfl); (case hop => first   | (apply r_loadNo; (case hx => rfl); (case h => (repeat (fail))); (case hd => (repeat (fail))); (case hn => rfl)) | (apply r_load1; rfl; (apply Cell.own; (case h => (repeat (exact List.Mem.head _))); rfl)) | (apply r_loadN; rfl; (apply CellsAt.own; (case h => (repeat (fail)))); rfl)); (case hf => kernel_rfl); (case hr => kernel_rfl); (case hd => rfl)))
    all_goals ((apply d_take 2; (case hi => rfl); (case hop => (apply PureOp.read; apply p_move <;> rfl)); (case hf => kernel_rfl); (case hr => kernel_rfl); (case hd => rfl)))
    all_goals ((apply d_take 5; (case hi => rfl); (case hop => (apply PureOp.read; apply p_move <;> rfl)); (case hf => kernel_rfl); (case hr => kernel_rfl); (case hd => rfl)))
    all_goals ((apply d_callJ0 3 (hs := (at4_s _ cb)); (case hi => rfl); (case hr => kernel_rfl); (case hx => rfl); (case ha => rfl); (case hd => rfl)))
    all_goals ((apply d_take 4; (case hi => rfl); (case hop => ((apply PureOp.read; apply p_assert1; (case hd => rfl); (case hx => rfl)))); (case hf => kernel_rfl); (case hr => kernel_rfl); (case hd => rfl)))
    all_goals (((apply d_call 6 (hs := qt); (case hi => rfl); (case hr => kernel_rfl);  (case ha => rfl); (case hp => exact PickA.perm (by repeat (first | exact PickA.here _ | apply PickA.cons))); (case hd => rfl); (case hν' => intro e he; simp at he; simp [he]); rintro _ G1 _ hle ⟨rfl, a', no', rfl, hr'⟩)))
    all_goals ((apply d_take 7; (case hi => rfl); (case hop => (apply PureOp.read; apply p_nilCheck <;> rfl)); (case hf => kernel_rfl); (case hr => kernel_rfl); (case hd => rfl)))
    all_goals ((apply d_store 8; (case hi => rfl); (case hr => kernel_rfl); (case hL => infer_instance); (case hp => rfl); (case hx => rfl); (case hc => rfl); (case hsz => rfl); (case h1 => rfl); (case hb => (repeat (first | exact List.Mem.head _ | apply List.Mem.tail))); (case hfit => (exact Nat.le_of_ble_eq_true rfl)); (case hov => (((repeat (first | with_reducible exact ov_nil | apply ov_cons)); done))); (case hu => repeat (first | exact Upd.here _ _ | apply Upd.there)); (case hν' => intro e he; (simp at he; simp [he]))))
    all_goals (apply d_done; (case hr => kernel_rfl))
    repeat' (fail)
    refine v_end [(rb, _), (cb, _)] (outsA0 rfl) (by repeat (first | exact List.Sublist.refl _ | apply List.Sublist.cons_cons | apply List.Sublist.cons)) ?_
    exact ⟨a', no', rfl, hr'⟩
  · refine d_start [(b, .cells (partL 4).toArray 113 (0, 0))] (by kernel_rfl) (by kernel_rfl) (by intro e he; (simp at he; simp [he])) ?_
    all_goals ((apply d_take 0; (case hi => rfl); (case hop => (apply PureOp.read; apply p_fieldAddrB <;> rfl)); (case hf => kernel_rfl); (case hr => kernel_rfl); (case hd => rfl)))
    all_goals ((apply d_take 1; (case hi => rfl); (case hop => first   | (apply r_loadNo; (case hx => rfl); (case h => (repeat (fail))); (case hd => (repeat (fail))); (case hn => rfl)) | (apply r_load1; rfl; (apply Cell.own; (case h => (repeat (exact List.Mem.head _))); rfl)) | (apply r_loadN; rfl; (apply CellsAt.own; (case h => (repeat (fail)))); rfl)); (case hf => kernel_rfl); (case hr => kernel_rfl); (case hd => rfl)))
    all_goals ((apply d_take 2; (case hi => rfl); (case hop => (apply PureOp.read; apply p_move <;> rfl)); (case hf => kernel_rfl); (case hr => kernel_rfl); (case hd => rfl)))
    all_goals ((apply d_take 5; (case hi => rfl); (case hop => (apply PureOp.read; apply p_move <;> rfl)); (case hf => kernel_rfl); (case hr => kernel_rfl); (case hd => rfl)))
    all_goals ((apply d_callJ0 3 (hs := (at5_s _ cb)); (case hi => rfl); (case hr => kernel_rfl); (case hx => rfl); (case ha => rfl); (case hd => rfl)))
    all_goals ((apply d_take 4; (case hi => rfl); (case hop => ((apply PureOp.read; apply p_assert1; (case hd => rfl); (case hx => rfl)))); (case hf => kernel_rfl); (case hr => kernel_rfl); (case hd => rfl)))
    all_goals (((apply d_call 6 (hs := qt); (case hi => rfl); (case hr => kernel_rfl);  (case ha => rfl); (case hp => exact PickA.perm (by repeat (first | exact PickA.here _ | apply PickA.cons))); (case hd => rfl); (case hν' => intro e he; simp at he; simp [he]); rintro _ G1 _ hle ⟨rfl, a', no', rfl, hr'⟩)))
    all_goals ((apply d_take 7; (case hi => rfl); (case hop => (apply PureOp.read; apply p_nilCheck <;> rfl)); (case hf => kernel_rfl); (case hr => kernel_rfl); (case hd => rfl)))
    all_goals ((apply d_store 8; (case hi => rfl); (case hr => kernel_rfl); (case hL => infer_instance); (case hp => rfl); (case hx => rfl); (case hc => rfl); (case hsz => rfl); (case h1 => rfl); (case hb => (repeat (first | exact List.Mem.head _ | apply List.Mem.tail))); (case hfit => (exact Nat.le_of_ble_eq_true rfl)); (case hov => (((repeat (first | with_reducible exact ov_nil | apply ov_cons)); done))); (case hu => repeat (first | exact Upd.here _ _ | apply Upd.there)); (case hν' => intro e he; (simp at he; simp [he]))))
    all_goals (apply d_done; (case hr => kernel_rfl))
    repeat' (fail)
    refine v_end [(rb, _), (cb, _)] (outsA0 rfl) (by repeat (first | exact List.Sublist.refl _ | apply List.Sublist.cons_cons | apply List.Sublist.cons)) ?_
    exact ⟨a', no', rfl, hr'⟩
  · refine v_call (μ1 := [(rb, _)]) (μ2 := _) rfl qn (PickA.perm (by repeat (first | exact PickA.here _ | apply PickA.cons))) rfl ?_
    rintro _ _ _ hle ⟨rfl, rfl, a', no', rfl, hr'⟩
    repeat' (first | apply v_nil | (apply v_pure; (case hop => (apply p_nilCheck <;> rfl)); (case hd => rfl)) | (apply v_store; (case hp => rfl); (case hx => rfl); (case hc => rfl); (case hsz => rfl); (case h1 => rfl); (case hb => (repeat (first | exact List.Mem.head _ | apply List.Mem.tail))); (case hfit => (exact Nat.le_of_ble_eq_true rfl)); (case hov => (((repeat (first | with_reducible exact ov_nil | apply ov_cons)); done))); (case hu => repeat (first | exact Upd.here _ _ | apply Upd.there))))
    refine v_ret [(rb, _), (cb, _)] (outsA0 rfl) (by repeat (first | exact List.Sublist.refl _ | apply List.Sublist.cons_cons | apply List.Sublist.cons)) ?_
    exact ⟨a', no', rfl, hr'⟩
end Go.Proofs.YtnoiahlpmgbhfaaDoor
/-
  cmd (layer 8), the eighth part: Put and Get in any version.
-/
set_option linter.unusedSimpArgs false
set_option linter.unusedVariables false
namespace Go.Proofs.YtnoiahlpmgbhfaaDoor
open Go.Vx Go.ChangeShapes Go.WideShapes Go.ChangeAt Go.RowKit
/-- Has a version's command of a kind that part? -/
def wantB (v kind : Int) (j : Nat) : Bool := if v = 1 then decide (hasOf j ≠ 4) else decide (band (cmdFields kind).1 (hasOf j) ≠ 0)
theorem wantedV_s (G : GH) (v kind : Int) (j : Nat) (hj : j < 6) : Con Tryd.prog 91 #[.agg (partL j).toArray, .int .i64 v, .int .i64 kind] G [] (Just (.bool (wantB v kind j)) G) := by
  have qf := fields_s G kind
  apply Con.just
  unfold wantB
  refine v_enter Tryd.func91 rfl Tryd.ntmps91 rfl (fun B => ?_)
  obtain rfl | rfl | rfl | rfl | rfl | rfl : j = 0 ∨ j = 1 ∨ j = 2 ∨ j = 3 ∨ j = 4 ∨ j = 5 := by omega
  all_goals
    repeat' (first | apply v_seq | apply v_region | apply v_nil | apply v_skip | (apply v_pure; (case hop => first | (apply p_move <;> rfl) | (apply p_nes <;> rfl) | (apply p_eq <;> rfl) | (apply p_ne <;> rfl) | (apply p_assign <;> rfl) | (apply p_fieldAddrB <;> rfl) | (apply p_extract0 <;> rfl) | (apply p_extract1 <;> rfl) | (apply p_and64 <;> rfl) | fail); (case hd => rfl)) | (apply v_cond; (case hc => rfl); all_goals (intro h; (try simp only [reduceCtorEq, dec_true, dec_false, decide_eq_true_eq, decide_eq_false_iff_not, Bool.not_eq_true', Bool.not_eq_false', Option.isNone_iff_eq_none, beq_true, beq_false, beq_iff_eq, beq_eq_false_iff_ne, ne_eq, decide_eq_decide, Bool.not_eq_true, Bool.not_eq_false, Decidable.not_not] at h); first | skip)) | (apply v_callJ (hs := qf); (case ha => rfl); (case hd => rfl)) | (apply v_read; (case hop => first | (apply r_load1; rfl; (apply Cell.own; (case h => (repeat (first | exact List.Mem.head _ | fail))); rfl)) | fail); (case hd => rfl)) | (apply v_box; (case hx => rfl); (case hz => rfl); (case hd => rfl); intro b) | fail)
  all_goals
    (refine v_ret [] (outsA1 rfl rfl) (by repeat (first | exact List.nil_sublist _ | fail)) ?_
     refine ⟨?_, rfl⟩
     simp [hasOf, dec_eq, *])
/-- The bytes of a command's parts that are wanted, one after the other. -/
def putW (w : Nat → Bool) (c : Cm) : Nat → List Int
  | 0 => []
  | k + 1 => putW w c k ++ (if w k then pbytes c k else [])
theorem putW_len (w : Nat → Bool) (c : Cm) (hk : c.key.size ≤ 1000) (hv : c.val.size ≤ 1000) (ho : c.old.size ≤ 1000) : ∀ k, (putW w c k).length ≤ 1011 * k
  | 0 => by simp [putW]
  | k + 1 => by
    rw [putW, List.length_append]
    have h1 := putW_len w c hk hv ho k
    have h2 := pbytes_len c hk hv ho k
    split
    · omega
    · simp; omega
theorem cputV_s {G : GH} {l : List Int} {sv : Value} (v : Int) (c : Cm) (hc : c.ok) (hk : c.key.size ≤ 1000) (hv : c.val.size ≤ 1000) (ho : c.old.size ≤ 1000) (wb : Nat) (hs : Sl G 1 (IntR .u8) sv l) (hl : l.length ≤ 90000) :
    Con Tryd.prog 76 #[.pointer (some ⟨wb, 0, none⟩), .int .i64 v, .agg c.cells.toArray] G [(wb, .cells [sv].toArray 66 (0, 0))]
      (fun r G' μ' => ∃ v', μ' = [(wb, .cells [v'].toArray 66 (0, 0))] ∧ Sl G' 1 (IntR .u8) v' (l ++ vbytes c.kind ++ putW (wantB v c.kind) c 6)) := by
  have hkw := hc.1
  simp [Lit.wf, IntKind.min, IntKind.max, IntKind.signed, IntKind.bits] at hkw
  refine v_enter Tryd.func76 rfl Tryd.ntmps76 rfl (fun B => ?_)
  repeat' (first | apply v_seq | apply v_region | apply v_nil | (apply v_pure; (case hop => first | (apply p_move <;> rfl) | (apply p_fieldAddrB <;> rfl) | fail); (case hd => rfl)) | (apply v_box (zs := c.cells); (case hx => rfl); (case hz => rfl); (case hd => rfl); intro cb) | (apply v_read; (case hop => first | (apply r_load1; rfl; (apply Cell.own; (case h => (repeat (first | exact List.Mem.head _ | fail))); rfl)) | fail); (case hd => rfl)) | fail)
  refine v_call (μ1 := [(wb, _)]) (μ2 := _) rfl (wnumber_s wb c.kind hs (by omega) (by omega)) (PickA.perm (by repeat (first | exact PickA.last | apply PickA.cons | fail))) rfl ?_
  rintro r0 G0 μ0 - ⟨v0, rfl, hv0⟩
  repeat' (first | apply v_seq | apply v_region | apply v_nil | fail)
  refine v_call (μ1 := []) (μ2 := _) rfl (parts_s G0) (List.Perm.refl _) rfl ?_
  rintro r G' μ1 - ⟨rfl, pb, rfl, rfl⟩
  refine v_frz [(pb, _)] (by repeat (first | exact PickA.here _ | fail)) ?_
  intro G1 hle1 hG1
  have hpb := hG1 pb _ (List.Mem.head _)
  have hv1 := hv0.mono hle1
  have hl1 : (l ++ vbytes c.kind).length ≤ 90011 := by
    rw [List.length_append]
    have := (vbytes_len c.kind).1
    omega
  generalize l ++ vbytes c.kind = l1 at *
  repeat' (first | apply v_nil | apply v_block | (apply v_pure; (case hop => first | (apply p_move <;> rfl) | (apply p_lenSlice <;> rfl) | fail); (case hd => rfl)) | fail)
  refine v_loop [14, 13, 12, 0, 1, 5] (fun us G' μ' => GH.le G1 G' ∧ ∃ (k : Nat) (w : Value), k ≤ 6 ∧ us = [Value.int .i64 (k : Int), .int .i64 6, .slice (some ⟨pb, 0, none⟩) 6 6, .pointer (some ⟨wb, 0, none⟩), .int .i64 v, .pointer (some ⟨cb, 0, none⟩)] ∧ μ' = [(wb, .cells [w].toArray 66 (0, 0)), (cb, .cells c.cells.toArray 27 (0, 0))] ∧ Sl G' 1 (IntR .u8) w (l1 ++ putW (wantB v c.kind) c k)) (fun us => 7 - (headI us).toNat) rfl ⟨GH.le_refl _, 0, _, by omega, rfl, rfl, by simpa [putW] using hv1⟩ ?_
  rintro us G2 μ' ⟨hle2, k, w, hk6, rfl, rfl, hw⟩
  by_cases hlt : k < 6
  · have hpk := partsG (hle2 _ _ hpb) hlt
    have hwt := wantedV_s G2 v c.kind k hlt
    have hlen : (l1 ++ putW (wantB v c.kind) c k).length ≤ 100000 := by
      rw [List.length_append]
      have := putW_len (wantB v c.kind) c hk hv ho k
      omega
    have hwr := write_s c hc hk hv ho wb cb k hlt hw hlen
    have e1 : putW (wantB v c.kind) c (k + 1) = putW (wantB v c.kind) c k ++ (if wantB v c.kind k then pbytes c k else []) := rfl
    generalize pbytes c k = pb1 at *
    have hbl : ∃ L, L = partL k := ⟨_, rfl⟩
    obtain ⟨L, hL⟩ := hbl
    cases hwb : wantB v c.kind k
    all_goals
      rw [hwb] at hwt e1
      obtain rfl | rfl | rfl | rfl | rfl | rfl : k = 0 ∨ k = 1 ∨ k = 2 ∨ k = 3 ∨ k = 4 ∨ k = 5 := by omega
    all_goals
      (simp only [if_true, if_false, List.append_nil, Bool.false_eq_true] at e1
       repeat' (first | apply v_seq | apply v_region | apply v_nil | apply v_skip | apply v_block | apply v_blk | (apply v_pure; (case hop => first | (apply p_move <;> rfl) | (apply p_lt <;> rfl) | (apply p_fieldAddrB <;> rfl) | (apply p_add; (case hx => rfl); (case hy => rfl); (case h => omega)) | (apply p_indexAddr; (case hx => rfl); (case hi => rfl); (case h0 => omega); (case h => omega)) | fail); (case hd => rfl)) | (apply v_condT; (case hc => rfl)) | (apply v_condF; (case hc => rfl)) | (apply v_cond; (case hc => rfl); all_goals (intro h; (try simp only [reduceCtorEq, dec_true, dec_false, decide_eq_true_eq, decide_eq_false_iff_not, Bool.not_eq_true', Bool.not_eq_false', Option.isNone_iff_eq_none, beq_true, beq_false, beq_iff_eq, beq_eq_false_iff_ne, ne_eq, decide_eq_decide, Bool.not_eq_true, Bool.not_eq_false, Decidable.not_not] at h); first | (exfalso; omega) | skip)) | (apply v_read; (case hop => (apply r_loadN; rfl; exact CellsAt.frozen hpk; rfl)); (case hd => rfl)) | (apply v_callJ (hs := hwt); (case ha => rfl); (case hd => rfl)) | (apply v_read; (case hop => first | (apply r_loadNo; (case hx => rfl); (case h => (repeat (first | exact List.Mem.head _ | fail))); (case hd => (repeat (first | with_reducible exact dt_nil | apply dt_here | fail))); (case hn => rfl)) | (apply r_load1; rfl; (apply Cell.own; (case h => (repeat (first | exact List.Mem.head _ | apply List.Mem.tail | fail))); rfl)) | fail); (case hd => rfl)) | (apply v_alloc; (case hz => rfl); (case hd => rfl); intro b) | (apply v_store; (case hp => rfl); (case hx => rfl); (case hc => rfl); (case hsz => rfl); (case h1 => rfl); (case hb => (repeat (first | exact List.Mem.head _ | fail))); (case hfit => first | exact Nat.le_of_ble_eq_true rfl | fail); (case hov => (first | ((repeat (first | with_reducible exact ov_nil | apply ov_cons | fail)); done) | fail)); (case hu => repeat (first | exact Upd.here _ _ | fail))) | fail))
    all_goals first
      | (refine v_call (μ1 := [(wb, _), (cb, _)]) (μ2 := _) rfl hwr (PickA.perm (by repeat (first | exact PickA.last | apply PickA.cons | fail))) rfl ?_
         rintro r3 G3 μ3 hle3 ⟨w3, rfl, hw3⟩
         repeat' (first | apply v_region | apply v_nil | apply v_blk | (apply v_pure; (case hop => first | (apply p_move <;> rfl) | (apply p_add; (case hx => rfl); (case hy => rfl); (case h => omega)) | fail); (case hd => rfl)) | fail)
         refine v_only [(wb, _), (cb, _)] (by repeat (first | exact PickA.here _ | fail)) ?_
         first
           | exact v_again rfl ⟨fun b o h => hle3 b o (hle2 b o h), 0 + 1, w3, by omega, rfl, rfl, by rw [e1, ← List.append_assoc]; exact hw3⟩ (by simp [headI])
           | exact v_again rfl ⟨fun b o h => hle3 b o (hle2 b o h), 1 + 1, w3, by omega, rfl, rfl, by rw [e1, ← List.append_assoc]; exact hw3⟩ (by simp [headI])
           | exact v_again rfl ⟨fun b o h => hle3 b o (hle2 b o h), 2 + 1, w3, by omega, rfl, rfl, by rw [e1, ← List.append_assoc]; exact hw3⟩ (by simp [headI])
           | exact v_again rfl ⟨fun b o h => hle3 b o (hle2 b o h), 3 + 1, w3, by omega, rfl, rfl, by rw [e1, ← List.append_assoc]; exact hw3⟩ (by simp [headI])
           | exact v_again rfl ⟨fun b o h => hle3 b o (hle2 b o h), 4 + 1, w3, by omega, rfl, rfl, by rw [e1, ← List.append_assoc]; exact hw3⟩ (by simp [headI])
           | exact v_again rfl ⟨fun b o h => hle3 b o (hle2 b o h), 5 + 1, w3, by omega, rfl, rfl, by rw [e1, ← List.append_assoc]; exact hw3⟩ (by simp [headI]))
      | (refine v_only [(wb, _), (cb, _)] (by repeat (first | exact PickA.last | apply PickA.cons | fail)) ?_
         first
           | exact v_again rfl ⟨hle2, 0 + 1, w, by omega, rfl, rfl, by rw [e1]; exact hw⟩ (by simp [headI])
           | exact v_again rfl ⟨hle2, 1 + 1, w, by omega, rfl, rfl, by rw [e1]; exact hw⟩ (by simp [headI])
           | exact v_again rfl ⟨hle2, 2 + 1, w, by omega, rfl, rfl, by rw [e1]; exact hw⟩ (by simp [headI])
           | exact v_again rfl ⟨hle2, 3 + 1, w, by omega, rfl, rfl, by rw [e1]; exact hw⟩ (by simp [headI])
           | exact v_again rfl ⟨hle2, 4 + 1, w, by omega, rfl, rfl, by rw [e1]; exact hw⟩ (by simp [headI])
           | exact v_again rfl ⟨hle2, 5 + 1, w, by omega, rfl, rfl, by rw [e1]; exact hw⟩ (by simp [headI]))
  · obtain rfl : k = 6 := by omega
    repeat' (first | apply v_seq | apply v_region | apply v_nil | (apply v_exit; (case hp => rfl)) | (apply v_pure; (case hop => first | (apply p_lt <;> rfl) | fail); (case hd => rfl)) | (apply v_cond; (case hc => rfl); all_goals (intro h; (try simp only [reduceCtorEq, dec_true, dec_false, decide_eq_true_eq, decide_eq_false_iff_not, Bool.not_eq_true', Bool.not_eq_false', Option.isNone_iff_eq_none, beq_true, beq_false, beq_iff_eq, beq_eq_false_iff_ne, ne_eq, decide_eq_decide, Bool.not_eq_true, Bool.not_eq_false, Decidable.not_not] at h); first | (exfalso; omega) | skip)) | fail)
    refine v_end [(wb, _)] (outsA0 rfl) (by repeat (first | exact List.nil_sublist _ | apply List.Sublist.cons_cons | fail)) ?_
    exact ⟨_, rfl, hw⟩
/-- In version 1. -/
def putL (c : Cm) (k : Nat) : List Int := putW (wantB 1 c.kind) c k
theorem putL_len (c : Cm) (hk : c.key.size ≤ 1000) (hv : c.val.size ≤ 1000) (ho : c.old.size ≤ 1000) (k : Nat) : (putL c k).length ≤ 1011 * k := putW_len _ c hk hv ho k
theorem cput_s {G : GH} {l : List Int} {sv : Value} (c : Cm) (hc : c.ok) (hk : c.key.size ≤ 1000) (hv : c.val.size ≤ 1000) (ho : c.old.size ≤ 1000) (wb : Nat) (hs : Sl G 1 (IntR .u8) sv l) (hl : l.length ≤ 1000) :
    Con Tryd.prog 76 #[.pointer (some ⟨wb, 0, none⟩), .int .i64 1, .agg c.cells.toArray] G [(wb, .cells [sv].toArray 66 (0, 0))]
      (fun r G' μ' => ∃ v', μ' = [(wb, .cells [v'].toArray 66 (0, 0))] ∧ Sl G' 1 (IntR .u8) v' (l ++ vbytes c.kind ++ putL c 6)) := cputV_s 1 c hc hk hv ho wb hs (by omega)
end Go.Proofs.YtnoiahlpmgbhfaaDoor
/-
  cmd (layer 8), the ninth part: Get in any version; what is put leads back, and what is got was put.
-/
set_option linter.unusedSimpArgs false
set_option linter.unusedVariables false
namespace Go.Proofs.YtnoiahlpmgbhfaaDoor
open Go.Vx Go.ChangeShapes Go.WideShapes Go.ChangeAt Go.RowKit
def zeroC : Cm := ⟨0, 0, 0, .empty, .empty, .empty, 0⟩
theorem setP_kind (c : Cm) (j : Nat) (s : Option (List Int)) : (c.setP j s).kind = c.kind := by unfold Cm.setP; split <;> rfl
/-- What is read of a command's first k parts, of those that are wanted. -/
def getW (w : Nat → Bool) (s : Option (List Int)) : Nat → Cm × Option (List Int)
  | 0 => ({ zeroC with kind := numV 9223372036854775807 s }, numS 9223372036854775807 s)
  | k + 1 => if w k then ((getW w s k).1.setP k (getW w s k).2, partS k (getW w s k).2) else getW w s k
theorem getW_kind (w : Nat → Bool) (s : Option (List Int)) : ∀ k, (getW w s k).1.kind = numV 9223372036854775807 s
  | 0 => rfl
  | k + 1 => by
    rw [getW]
    split
    · rw [setP_kind]; exact getW_kind w s k
    · exact getW_kind w s k
theorem cgetV_s {G : GH} {l : List Int} {bv : Value} {s : Option (List Int)} (v : Int) (rb a : Nat) (no : Int) (hs : Sl G 1 (IntR .u8) bv l) (hl : l.length ≤ 1048576) (hr : RdS l a no s) :
    Con Tryd.prog 53 #[.pointer (some ⟨rb, 0, none⟩), .int .i64 v] G [(rb, rdO bv a no)]
      (fun r G' μ' => r = .agg (getW (wantB v (nV s)) s 6).1.cells.toArray ∧ ∃ a' no', μ' = [(rb, rdO bv (a' : Nat) no')] ∧ RdS l a' no' (getW (wantB v (nV s)) s 6).2) := by
  have qn := rdNumber_s rb a no 9223372036854775807 hs hl hr
  have hk0 := getW_kind (wantB v (nV s)) s
  have e0 : getW (wantB v (nV s)) s 0 = ({ zeroC with kind := numV 9223372036854775807 s }, numS 9223372036854775807 s) := rfl
  unfold nV at *
  generalize numV 9223372036854775807 s = kd at *
  generalize hw : wantB v kd = wf at *
  refine v_enter Tryd.func53 rfl Tryd.ntmps53 rfl (fun B => ?_)
  repeat' (first | apply v_seq | apply v_region | apply v_nil | (apply v_pure; (case hop => (apply p_move <;> rfl)); (case hd => rfl)) | (apply v_alloc; (case hz => rfl); (case hd => rfl); intro b))
  rename Nat => ob
  refine v_call (μ1 := [(rb, _)]) (μ2 := _) rfl qn (PickA.perm (by repeat (first | exact PickA.last | apply PickA.cons))) rfl ?_
  rintro _ _ _ hle0 ⟨rfl, rfl, a0, no0, rfl, hr0⟩
  repeat' (first | apply v_seq | apply v_region | apply v_nil | (apply v_pure; (case hop => (apply p_build; (case hz => rfl); (case hv => (simp only [List.map_cons, List.map_nil]; repeat (first | with_reducible exact evs_nil | (apply evs_cons; (case h1 => rfl))))); (case hb => (apply bldL; repeat (first | exact bld_nil | (apply bld_cons; (case hpf => rfl); (case hc => rfl); (case hs => rfl); (case hl => rfl); (case ho => (((repeat (first | with_reducible exact ov_nil | apply ov_cons)); done))))))))); (case hd => rfl)) | (apply v_alloc; (case hz => rfl); (case hd => rfl); intro b) | (apply v_store; (case hp => rfl); (case hx => rfl); (case hc => rfl); (case hsz => rfl); (case h1 => rfl); (case hb => (repeat (exact List.Mem.head _))); (case hfit => (exact Nat.le_of_ble_eq_true rfl)); (case hov => (((repeat (first | with_reducible exact ov_nil | apply ov_cons)); done))); (case hu => repeat (exact Upd.here _ _))))
  rename Nat => cb
  refine v_call (μ1 := []) (μ2 := _) rfl (parts_s _) (List.Perm.refl _) rfl ?_
  rintro r G' μ1 - ⟨rfl, pb, rfl, rfl⟩
  refine v_frz [(pb, _)] (by repeat (exact PickA.here _)) ?_
  intro G1 hle1 hG1
  have hpb := hG1 pb _ (List.Mem.head _)
  repeat' (first | apply v_nil | apply v_block | (apply v_pure; (case hop => first | (apply p_move <;> rfl) | (apply p_lenSlice <;> rfl)); (case hd => rfl)))
  refine v_perm (ν := [(rb, rdO bv a0 no0), (cb, .cells ({ zeroC with kind := kd } : Cm).cells.toArray 27 (0, 0)), (ob, .cells zeroC.cells.toArray 27 (0, 0))]) (by apply perm_of_count; intro p; simp only [List.countP_append, List.countP_cons, List.countP_nil, Nat.zero_add, Nat.add_zero]; try ac_rfl) ?_
  refine v_loop [13, 12, 11, 0, 1, 5, 4] (fun us G' μ' => GH.le G1 G' ∧ ∃ (k a' : Nat) (no' : Int), k ≤ 6 ∧ us = [Value.int .i64 (k : Int), .int .i64 6, .slice (some ⟨pb, 0, none⟩) 6 6, .pointer (some ⟨rb, 0, none⟩), .int .i64 v, .pointer (some ⟨cb, 0, none⟩), .pointer (some ⟨ob, 0, none⟩)] ∧ μ' = [(rb, rdO bv a' no'), (cb, .cells (getW wf s k).1.cells.toArray 27 (0, 0)), (ob, .cells zeroC.cells.toArray 27 (0, 0))] ∧ RdS l a' no' (getW wf s k).2) (fun us => 7 - (headI us).toNat) rfl ⟨GH.le_refl _, 0, a0, no0, by omega, rfl, by rw [e0], by rw [e0]; exact hr0⟩ ?_
  rintro us G2 μ' ⟨hle2, k, a2, no2, hk6, rfl, rfl, hr2⟩
  by_cases hlt : k < 6
  · have hpk := partsG (hle2 _ _ hpb) hlt
    have hwt := wantedV_s G2 v kd k hlt
    rw [hw] at hwt
    have hrd := read_s (getW wf s k).1 rb cb a2 k no2 hlt ((hs.mono hle1).mono hle2) hl hr2
    have e1 : getW wf s (k + 1) = if wf k then ((getW wf s k).1.setP k (getW wf s k).2, partS k (getW wf s k).2) else getW wf s k := rfl
    have ek := hk0 k
    generalize getW wf s k = gk at *
    obtain ⟨gc, gs⟩ := gk
    simp only at ek
    subst ek
    cases hwb : wf k
    all_goals
      rw [hwb] at hwt e1
      obtain rfl | rfl | rfl | rfl | rfl | rfl : k = 0 ∨ k = 1 ∨ k = 2 ∨ k = 3 ∨ k = 4 ∨ k = 5 := by omega
    all_goals
      (simp only [if_true, if_false, Bool.false_eq_true] at e1
       repeat' (first | apply v_seq | apply v_region | apply v_nil | apply v_skip | apply v_block | apply v_blk | (apply v_pure; (case hop => first | (apply p_move <;> rfl) | (apply p_lt <;> rfl) | (apply p_fieldAddrB <;> rfl) | (apply p_add; (case hx => rfl); (case hy => rfl); (case h => omega)) | (apply p_indexAddr; (case hx => rfl); (case hi => rfl); (case h0 => omega); (case h => omega))); (case hd => rfl)) | (apply v_condT; (case hc => rfl)) | (apply v_condF; (case hc => rfl)) | (apply v_cond; (case hc => rfl); all_goals (intro h; (try simp only [reduceCtorEq, dec_true, dec_false, decide_eq_true_eq, decide_eq_false_iff_not, Bool.not_eq_true', Bool.not_eq_false', Option.isNone_iff_eq_none, beq_true, beq_false, beq_iff_eq, beq_eq_false_iff_ne, ne_eq, decide_eq_decide, Bool.not_eq_true, Bool.not_eq_false, Decidable.not_not] at h); first | (exfalso; omega) | skip)) | (apply v_read; (case hop => (apply r_loadN; rfl; exact CellsAt.frozen hpk; rfl)); (case hd => rfl)) | (apply v_callJ (hs := hwt); (case ha => rfl); (case hd => rfl)) | (apply v_read; (case hop => first | (apply r_loadNo; (case hx => rfl); (case h => (repeat (exact List.Mem.head _))); (case hd => (repeat (first | with_reducible exact dt_nil | apply dt_here))); (case hn => rfl)) | (apply r_load1; rfl; (apply Cell.own; (case h => (repeat (first | exact List.Mem.head _ | apply List.Mem.tail))); rfl))); (case hd => rfl)) | (apply v_alloc; (case hz => rfl); (case hd => rfl); intro b) | (apply v_store; (case hp => rfl); (case hx => rfl); (case hc => rfl); (case hsz => rfl); (case h1 => rfl); (case hb => (repeat (exact List.Mem.head _))); (case hfit => (exact Nat.le_of_ble_eq_true rfl)); (case hov => (((repeat (first | with_reducible exact ov_nil | apply ov_cons)); done))); (case hu => repeat (exact Upd.here _ _)))))
    all_goals first
      | (refine v_call (μ1 := [(rb, _), (cb, _)]) (μ2 := _) rfl hrd (PickA.perm (by repeat (first | exact PickA.last | exact PickA.here _ | apply PickA.cons))) rfl ?_
         rintro r3 G3 _ hle3 ⟨a3, no3, rfl, hr3⟩
         repeat' (first | apply v_region | apply v_nil | apply v_blk | (apply v_pure; (case hop => first | (apply p_move <;> rfl) | (apply p_add; (case hx => rfl); (case hy => rfl); (case h => omega))); (case hd => rfl)))
         refine v_drop (ν := [(rb, _), (cb, _), (ob, _)]) (by repeat (first | exact List.Sublist.refl _ | apply List.Sublist.cons_cons | apply List.Sublist.cons)) ?_
         first
           | exact v_again rfl ⟨fun b o h => hle3 b o (hle2 b o h), 0 + 1, a3, no3, by omega, rfl, by rw [e1], by rw [e1]; exact hr3⟩ (by simp [headI])
           | exact v_again rfl ⟨fun b o h => hle3 b o (hle2 b o h), 1 + 1, a3, no3, by omega, rfl, by rw [e1], by rw [e1]; exact hr3⟩ (by simp [headI])
           | exact v_again rfl ⟨fun b o h => hle3 b o (hle2 b o h), 2 + 1, a3, no3, by omega, rfl, by rw [e1], by rw [e1]; exact hr3⟩ (by simp [headI])
           | exact v_again rfl ⟨fun b o h => hle3 b o (hle2 b o h), 3 + 1, a3, no3, by omega, rfl, by rw [e1], by rw [e1]; exact hr3⟩ (by simp [headI])
           | exact v_again rfl ⟨fun b o h => hle3 b o (hle2 b o h), 4 + 1, a3, no3, by omega, rfl, by rw [e1], by rw [e1]; exact hr3⟩ (by simp [headI])
           | exact v_again rfl ⟨fun b o h => hle3 b o (hle2 b o h), 5 + 1, a3, no3, by omega, rfl, by rw [e1], by rw [e1]; exact hr3⟩ (by simp [headI]))
      | (refine v_drop (ν := [(rb, _), (cb, _), (ob, _)]) (by repeat (first | exact List.Sublist.refl _ | apply List.Sublist.cons)) ?_
         first
           | exact v_again rfl ⟨hle2, 0 + 1, a2, no2, by omega, rfl, by rw [e1], by rw [e1]; exact hr2⟩ (by simp [headI])
           | exact v_again rfl ⟨hle2, 1 + 1, a2, no2, by omega, rfl, by rw [e1], by rw [e1]; exact hr2⟩ (by simp [headI])
           | exact v_again rfl ⟨hle2, 2 + 1, a2, no2, by omega, rfl, by rw [e1], by rw [e1]; exact hr2⟩ (by simp [headI])
           | exact v_again rfl ⟨hle2, 3 + 1, a2, no2, by omega, rfl, by rw [e1], by rw [e1]; exact hr2⟩ (by simp [headI])
           | exact v_again rfl ⟨hle2, 4 + 1, a2, no2, by omega, rfl, by rw [e1], by rw [e1]; exact hr2⟩ (by simp [headI])
           | exact v_again rfl ⟨hle2, 5 + 1, a2, no2, by omega, rfl, by rw [e1], by rw [e1]; exact hr2⟩ (by simp [headI]))
  · obtain rfl : k = 6 := by omega
    repeat' (first | apply v_seq | apply v_region | apply v_nil | (apply v_exit; (case hp => rfl)) | (apply v_pure; (case hop => (apply p_lt <;> rfl)); (case hd => rfl)) | (apply v_cond; (case hc => rfl); all_goals (intro h; (try simp only [reduceCtorEq, dec_true, dec_false, decide_eq_true_eq, decide_eq_false_iff_not, Bool.not_eq_true', Bool.not_eq_false', Option.isNone_iff_eq_none, beq_true, beq_false, beq_iff_eq, beq_eq_false_iff_ne, ne_eq, decide_eq_decide, Bool.not_eq_true, Bool.not_eq_false, Decidable.not_not] at h); first | (exfalso; omega) | skip)) | (apply v_read; (case hop => (apply r_loadNo; (case hx => rfl); (case h => (repeat (first | exact List.Mem.head _ | apply List.Mem.tail))); (case hd => (repeat (first | with_reducible exact dt_nil | apply dt_here))); (case hn => rfl))); (case hd => rfl)) | (apply v_store; (case hp => rfl); (case hx => rfl); (case hc => rfl); (case hsz => rfl); (case h1 => rfl); (case hb => (repeat (first | exact List.Mem.head _ | apply List.Mem.tail))); (case hfit => (exact Nat.le_of_ble_eq_true rfl)); (case hov => (((repeat (first | with_reducible exact ov_nil | apply ov_cons)); done))); (case hu => repeat (first | exact Upd.here _ _ | apply Upd.there))))
    refine v_retM [(rb, _)] (outsM_cell (vs := (getW wf s 6).1.cells) (e := 27) rfl rfl ?_ rfl) (by repeat (first | exact List.nil_sublist _ | apply List.Sublist.cons_cons)) ?_
    · exact .tail _ (.tail _ (.head _))
    · exact ⟨rfl, a2, no2, rfl, hr2⟩
/-- In version 1. -/
abbrev getK (s : Option (List Int)) (k : Nat) : Cm × Option (List Int) := getW (wantB 1 (nV s)) s k
end Go.Proofs.YtnoiahlpmgbhfaaDoor
/-
  cmd (layer 8), the tenth part, in plain Lean: what is put of a command leads back to it; what is got was put.
-/
set_option linter.unusedSimpArgs false
set_option linter.unusedVariables false
namespace Go.Proofs.YtnoiahlpmgbhfaaDoor
open Go.Vx Go.ChangeShapes Go.WideShapes Go.ChangeAt Go.RowKit
theorem partS_b {s : Option (List Int)} (h : byteS s) (j : Nat) : byteS (partS j s) := by
  unfold partS
  split
  · exact numS_b h _
  · exact rawS_b h _
theorem setP_ok {c : Cm} (hc : c.ok) {s : Option (List Int)} (h : byteS s) (j : Nat) : (c.setP j s).ok := by
  obtain ⟨h1, h2, h3, h4, h5, h6, h7⟩ := hc
  have hn := wf64 (numV_b h 9223372036854775807)
  have ht := txt_len s
  unfold Cm.setP
  split <;> exact ⟨by assumption, by assumption, by assumption, by assumption, by assumption, by assumption, by assumption⟩
theorem zeroC_ok : zeroC.ok := ⟨by decide, by decide, by decide, by decide, by decide, by decide, by decide⟩
theorem getW_ok (w : Nat → Bool) {s : Option (List Int)} (h : byteS s) : ∀ k, (getW w s k).1.ok ∧ byteS (getW w s k).2
  | 0 => ⟨⟨wf64 (numV_b h _), zeroC_ok.2⟩, numS_b h _⟩
  | k + 1 => by
    obtain ⟨h1, h2⟩ := getW_ok w h k
    rw [getW]
    split
    · exact ⟨setP_ok h1 h2 k, partS_b h2 k⟩
    · exact ⟨h1, h2⟩
/-- The sizes of the texts that are read. -/
theorem setP_sz {c : Cm} {n : Nat} (hc : c.key.size ≤ n ∧ c.val.size ≤ n ∧ c.old.size ≤ n) {s : Option (List Int)} (h : (rawB 1048576 s).length ≤ n) (j : Nat) : (c.setP j s).key.size ≤ n ∧ (c.setP j s).val.size ≤ n ∧ (c.setP j s).old.size ≤ n := by
  obtain ⟨h1, h2, h3⟩ := hc
  rw [← strL_size] at h
  unfold Cm.setP
  split <;> exact ⟨by assumption, by assumption, by assumption⟩
theorem part_num {c : Cm} {j : Nat} (hj : isNum j = true) (h0 : 0 ≤ c.num j) (h1 : c.num j ≤ 9223372036854775807) (r : List Int) : partS j (some (pbytes c j ++ r)) = some r ∧ nV (some (pbytes c j ++ r)) = c.num j := by
  have := num_v r h0 h1
  unfold partS pbytes
  rw [if_pos hj, if_pos hj]
  exact ⟨this.2, this.1⟩
theorem part_txt {c : Cm} {j : Nat} (hj : isNum j = false) (h1 : (c.txt j).size ≤ 1000) (r : List Int) : partS j (some (pbytes c j ++ r)) = some r ∧ strL (rawB 1048576 (some (pbytes c j ++ r))) = c.txt j := by
  have := raw_v (most := 1048576) (sbytes (c.txt j)) r (by rw [sbytes_length]; omega) (by rw [sbytes_length]; omega)
  rw [sbytes_length] at this
  unfold partS pbytes
  rw [if_neg (by rw [hj]; decide), if_neg (by rw [hj]; decide), this.1, this.2, strL_sbytes]
  exact ⟨rfl, rfl⟩
/-- Only the first k parts of a command. -/
def cutC (c : Cm) (k : Nat) : Cm := ⟨c.kind, if 0 < k then c.client else 0, if 1 < k then c.seq else 0, if 2 < k then c.key else .empty, if 4 < k then c.val else .empty, if 3 < k then c.old else .empty, if 5 < k then c.node else 0⟩
/-- A part that is not wanted is none; one that is, is not too large. -/
def fitP (w : Nat → Bool) (c : Cm) (k : Nat) : Prop := if isNum k then (w k = false → c.num k = 0) ∧ 0 ≤ c.num k ∧ c.num k ≤ 9223372036854775807 else (w k = false → c.txt k = .empty) ∧ (c.txt k).size ≤ 1000
theorem cut_step {w : Nat → Bool} {c : Cm} {k : Nat} (hk : k < 6) (hf : fitP w c k) {s : Option (List Int)} {t : List Int} (h : getW w s k = (cutC c k, some ((if w k then pbytes c k else []) ++ t))) : getW w s (k + 1) = (cutC c (k + 1), some t) := by
  rw [getW, h]
  unfold fitP at hf
  cases hw : w k
  · rw [hw] at hf
    simp only [if_false, Bool.false_eq_true, List.nil_append, Prod.mk.injEq, and_true]
    obtain rfl | rfl | rfl | rfl | rfl | rfl : k = 0 ∨ k = 1 ∨ k = 2 ∨ k = 3 ∨ k = 4 ∨ k = 5 := by omega
    all_goals
      (simp [isNum, Cm.num, Cm.txt] at hf
       simp [cutC, hf])
  · rw [hw] at hf
    simp only [if_true]
    obtain rfl | rfl | rfl | rfl | rfl | rfl : k = 0 ∨ k = 1 ∨ k = 2 ∨ k = 3 ∨ k = 4 ∨ k = 5 := by omega
    · have := part_num (c := c) (j := 0) rfl hf.2.1 hf.2.2 t
      rw [this.1]; simp only [Cm.setP, this.2, cutC]; rfl
    · have := part_num (c := c) (j := 1) rfl hf.2.1 hf.2.2 t
      rw [this.1]; simp only [Cm.setP, this.2, cutC]; rfl
    · have := part_txt (c := c) (j := 2) rfl hf.2 t
      rw [this.1]; simp only [Cm.setP, this.2, cutC]; rfl
    · have := part_txt (c := c) (j := 3) rfl hf.2 t
      rw [this.1]; simp only [Cm.setP, this.2, cutC]; rfl
    · have := part_txt (c := c) (j := 4) rfl hf.2 t
      rw [this.1]; simp only [Cm.setP, this.2, cutC]; rfl
    · have := part_num (c := c) (j := 5) rfl hf.2.1 hf.2.2 t
      rw [this.1]; simp only [Cm.setP, this.2, cutC]; rfl
theorem getW_put {w : Nat → Bool} {c : Cm} (hk : 0 ≤ c.kind ∧ c.kind ≤ 9223372036854775807) (hf : ∀ k < 6, fitP w c k) (r : List Int) : getW w (some (vbytes c.kind ++ putW w c 6 ++ r)) 6 = (c, some r) := by
  have e : vbytes c.kind ++ putW w c 6 ++ r = vbytes c.kind ++ ((if w 0 then pbytes c 0 else []) ++ ((if w 1 then pbytes c 1 else []) ++ ((if w 2 then pbytes c 2 else []) ++ ((if w 3 then pbytes c 3 else []) ++ ((if w 4 then pbytes c 4 else []) ++ ((if w 5 then pbytes c 5 else []) ++ r)))))) := by simp [putW]
  rw [e]
  have k0 := num_v ((if w 0 then pbytes c 0 else []) ++ ((if w 1 then pbytes c 1 else []) ++ ((if w 2 then pbytes c 2 else []) ++ ((if w 3 then pbytes c 3 else []) ++ ((if w 4 then pbytes c 4 else []) ++ ((if w 5 then pbytes c 5 else []) ++ r)))))) hk.1 hk.2
  have s0 : getW w (some (vbytes c.kind ++ ((if w 0 then pbytes c 0 else []) ++ ((if w 1 then pbytes c 1 else []) ++ ((if w 2 then pbytes c 2 else []) ++ ((if w 3 then pbytes c 3 else []) ++ ((if w 4 then pbytes c 4 else []) ++ ((if w 5 then pbytes c 5 else []) ++ r)))))))) 0 = (cutC c 0, some ((if w 0 then pbytes c 0 else []) ++ ((if w 1 then pbytes c 1 else []) ++ ((if w 2 then pbytes c 2 else []) ++ ((if w 3 then pbytes c 3 else []) ++ ((if w 4 then pbytes c 4 else []) ++ ((if w 5 then pbytes c 5 else []) ++ r))))))) := by
    rw [getW]
    simp only [nV, nS] at k0
    rw [k0.1, k0.2]
    rfl
  have s6 := cut_step (by omega) (hf 5 (by omega)) (cut_step (by omega) (hf 4 (by omega)) (cut_step (by omega) (hf 3 (by omega)) (cut_step (by omega) (hf 2 (by omega)) (cut_step (by omega) (hf 1 (by omega)) (cut_step (by omega) (hf 0 (by omega)) s0)))))
  rw [s6]
  rfl
theorem pnum_inv {s : Option (List Int)} (hb : byteS s) {c : Cm} {j : Nat} (hj : isNum j = true) (hc : c.num j = nV s) {r' : List Int} (h : partS j s = some r') : s = some (pbytes c j ++ r') := by
  unfold partS at h
  rw [if_pos hj] at h
  unfold pbytes
  rw [if_pos hj, hc]
  exact num_inv hb h
theorem ptxt_inv {s : Option (List Int)} (hb : byteS s) {c : Cm} {j : Nat} (hj : isNum j = false) (hc : c.txt j = strL (rawB 1048576 s)) {r' : List Int} (h : partS j s = some r') : s = some (pbytes c j ++ r') := by
  unfold partS at h
  rw [if_neg (by rw [hj]; decide)] at h
  unfold pbytes
  rw [if_neg (by rw [hj]; decide), hc, sbytes_strL (raw_byte hb _), strL_size]
  exact raw_inv hb h
theorem part_inv {s : Option (List Int)} (hb : byteS s) (c : Cm) {j : Nat} (hj : j < 6) {r' : List Int} (h : partS j s = some r') : s = some (pbytes (c.setP j s) j ++ r') := by
  obtain rfl | rfl | rfl | rfl | rfl | rfl : j = 0 ∨ j = 1 ∨ j = 2 ∨ j = 3 ∨ j = 4 ∨ j = 5 := by omega
  · exact pnum_inv hb rfl rfl h
  · exact pnum_inv hb rfl rfl h
  · exact ptxt_inv hb rfl rfl h
  · exact ptxt_inv hb rfl rfl h
  · exact ptxt_inv hb rfl rfl h
  · exact pnum_inv hb rfl rfl h
theorem pbytes_setP (c : Cm) {j k : Nat} (hjk : j < k) (hk : k < 6) (s : Option (List Int)) : pbytes (c.setP k s) j = pbytes c j := by
  obtain rfl | rfl | rfl | rfl | rfl | rfl : k = 0 ∨ k = 1 ∨ k = 2 ∨ k = 3 ∨ k = 4 ∨ k = 5 := by omega
  all_goals
    (obtain rfl | rfl | rfl | rfl | rfl : j = 0 ∨ j = 1 ∨ j = 2 ∨ j = 3 ∨ j = 4 := by omega) <;> first | rfl | omega
theorem putW_setP (w : Nat → Bool) (c : Cm) {k : Nat} (hk : k < 6) (s : Option (List Int)) : ∀ j, j ≤ k → putW w (c.setP k s) j = putW w c j
  | 0, _ => rfl
  | j + 1, h => by rw [putW, putW, putW_setP w c hk s j (by omega), pbytes_setP c (by omega) hk s]
theorem getW_inv (w : Nat → Bool) {s : Option (List Int)} (hb : byteS s) : ∀ (k : Nat) (t : List Int), k ≤ 6 → (getW w s k).2 = some t → nS s = some (putW w (getW w s k).1 k ++ t)
  | 0, t, _, h => h
  | k + 1, t, hk, h => by
    rw [getW] at h ⊢
    cases hw : w k
    · rw [hw] at h
      simp only [if_false, Bool.false_eq_true] at h ⊢
      rw [putW, hw, if_neg (by decide), List.append_nil]
      exact getW_inv w hb k t (by omega) h
    · rw [hw] at h
      simp only [if_true] at h ⊢
      have hp := part_inv (getW_ok w hb k).2 (getW w s k).1 (by omega) h
      have ih := getW_inv w hb k _ (by omega) hp
      rw [ih, putW, hw, if_pos rfl, putW_setP w _ (by omega) _ k (Nat.le_refl _), List.append_assoc]
/-- What is got of a command has the bytes that were read. -/
theorem getW_all (w : Nat → Bool) {s : Option (List Int)} (hb : byteS s) {t : List Int} (h : (getW w s 6).2 = some t) : s = some (vbytes (getW w s 6).1.kind ++ putW w (getW w s 6).1 6 ++ t) := by
  have h1 := getW_inv w hb 6 t (by omega) h
  have h2 := num_inv hb h1
  rw [getW_kind, List.append_assoc]
  exact h2
theorem ite0 {p : Prop} [Decidable p] {a b : Int} (ha : a ≠ 0) (h : (if p then a else b) = 0) : ¬ p ∧ b = 0 := by
  by_cases hp : p
  · rw [if_pos hp] at h; exact absurd h ha
  · rw [if_neg hp] at h; exact ⟨hp, h⟩
theorem cmd0 {c : Cm} (h : cmdI c = 0) : (1 ≤ c.kind ∧ c.kind ≤ 8) ∧ (0 ≤ c.client ∧ c.client ≤ 8) ∧ (0 ≤ c.seq ∧ c.seq ≤ 4294967296) ∧ (0 ≤ c.node ∧ c.node ≤ 9) ∧ (c.kind ≠ 5 → c.old = .empty) := by
  rw [cmdI_eq] at h
  unfold cmdE at h
  obtain ⟨h1, h⟩ := ite0 (by decide) h
  obtain ⟨h2, h⟩ := ite0 (by decide) h
  obtain ⟨h3, h⟩ := ite0 (by decide) h
  obtain ⟨h4, h⟩ := ite0 (by decide) h
  clear h3
  refine ⟨by omega, by omega, by omega, by omega, fun hk => ?_⟩
  exact nil_iff.2 (by omega)
set_option maxHeartbeats 4000000 in
theorem cmdFit {v : Int} {c : Cm} (h : cmdI c = 0) (hv : (v = 1 ∧ c.kind ≠ 5) ∨ v = 2) (hs : c.key.size ≤ 1000 ∧ c.val.size ≤ 1000 ∧ c.old.size ≤ 1000) : ∀ k < 6, fitP (wantB v c.kind) c k := by
  obtain ⟨c1, c2, c3, c4, c5⟩ := cmd0 h
  obtain ⟨hs1, hs2, hs3⟩ := hs
  rw [cmdI_eq] at h
  unfold cmdE at h
  obtain ⟨-, h⟩ := ite0 (by decide) h
  obtain ⟨-, h⟩ := ite0 (by decide) h
  obtain ⟨-, h⟩ := ite0 (by decide) h
  obtain ⟨h4, -⟩ := ite0 (by decide) h
  obtain ⟨kind, client, seq, key, val, old, node⟩ := c
  simp only at *
  have nk : key.size = 0 → key = .empty := fun e => nil_iff.2 e
  have nv : val.size = 0 → val = .empty := fun e => nil_iff.2 e
  have no : old.size = 0 → old = .empty := fun e => nil_iff.2 e
  intro k hk
  obtain ⟨rfl, hk5⟩ | rfl := hv
  · obtain rfl | rfl | rfl | rfl | rfl | rfl : k = 0 ∨ k = 1 ∨ k = 2 ∨ k = 3 ∨ k = 4 ∨ k = 5 := by omega
    all_goals
      (simp [fitP, isNum, wantB, hasOf, Cm.num, Cm.txt]
       first | omega | exact ⟨no (by omega), hs3⟩)
  · obtain rfl | rfl | rfl | rfl | rfl | rfl | rfl | rfl : kind = 1 ∨ kind = 2 ∨ kind = 3 ∨ kind = 4 ∨ kind = 5 ∨ kind = 6 ∨ kind = 7 ∨ kind = 8 := by omega
    all_goals
      (obtain rfl | rfl | rfl | rfl | rfl | rfl : k = 0 ∨ k = 1 ∨ k = 2 ∨ k = 3 ∨ k = 4 ∨ k = 5 := by omega)
    all_goals
      (simp [fitP, isNum, wantB, cmdFields, hasOf, Cm.num, Cm.txt, band_0_1, band_0_2, band_0_4, band_0_8, band_0_16, band_3_1, band_3_2, band_3_4, band_3_8, band_3_16, band_11_1, band_11_2, band_11_4, band_11_8, band_11_16, band_15_1, band_15_2, band_15_4, band_15_8, band_15_16, band_16_1, band_16_2, band_16_4, band_16_8, band_16_16]
       first | omega | exact ⟨no (by omega), by omega⟩ | exact ⟨nv (by omega), by omega⟩ | exact ⟨nk (by omega), by omega⟩)
/-- What is put of a command that may be in a version leads back to it. -/
theorem getV_put {v : Int} {c : Cm} (h : cmdI c = 0) (hv : (v = 1 ∧ c.kind ≠ 5) ∨ v = 2) (hs : c.key.size ≤ 1000 ∧ c.val.size ≤ 1000 ∧ c.old.size ≤ 1000) (r : List Int) :
    getW (wantB v (nV (some (vbytes c.kind ++ putW (wantB v c.kind) c 6 ++ r)))) (some (vbytes c.kind ++ putW (wantB v c.kind) c 6 ++ r)) 6 = (c, some r) := by
  obtain ⟨c1, c2, c3, c4, c5⟩ := cmd0 h
  have e := (num_v (m := c.kind) (putW (wantB v c.kind) c 6 ++ r) (by omega) (by omega)).1
  rw [← List.append_assoc] at e
  rw [e]
  exact getW_put (by omega) (cmdFit h hv hs) r
end Go.Proofs.YtnoiahlpmgbhfaaDoor
/-
  entry (layer 12), the twelfth part: Put, and Get.
-/
set_option linter.unusedSimpArgs false
set_option linter.unusedVariables false
namespace Go.Proofs.YtnoiahlpmgbhfaaDoor
open Go.Vx Go.ChangeShapes Go.WideShapes Go.ChangeAt Go.RowKit
theorem pbytes_len2 (c : Cm) {n : Nat} (h : c.key.size ≤ n ∧ c.val.size ≤ n ∧ c.old.size ≤ n) (j : Nat) : (pbytes c j).length ≤ 11 + n := by
  unfold pbytes
  split
  · have := (vbytes_len (c.num j)).1
    omega
  · rw [List.length_append, sbytes_length]
    have := (vbytes_len ((c.txt j).size : Nat)).1
    have : (c.txt j).size ≤ n := by unfold Cm.txt; split <;> omega
    omega
theorem putW_len2 (w : Nat → Bool) (c : Cm) {n : Nat} (h : c.key.size ≤ n ∧ c.val.size ≤ n ∧ c.old.size ≤ n) : ∀ k, (putW w c k).length ≤ (11 + n) * k
  | 0 => by simp [putW]
  | k + 1 => by
    rw [putW, List.length_append]
    have h1 := putW_len2 w c h k
    have h2 := pbytes_len2 c h k
    rw [Nat.mul_succ]
    split
    · omega
    · simp; omega
/-- The bytes of an entry, and of all. -/
def entB (v : Int) (x : Ent) : List Int := vbytes x.index ++ vbytes x.round ++ vbytes x.node ++ (vbytes x.cmd.kind ++ putW (wantB v x.cmd.kind) x.cmd 6)
def entsB (v : Int) (l : List Ent) : List Int := (l.map (entB v)).flatten
def Ent.sz (x : Ent) : Prop := x.cmd.key.size ≤ 48 ∧ x.cmd.val.size ≤ 48 ∧ x.cmd.old.size ≤ 48
theorem entB_len (v : Int) {x : Ent} (h : x.sz) : (entB v x).length ≤ 398 := by
  have h1 := (vbytes_len x.index).1
  have h2 := (vbytes_len x.round).1
  have h3 := (vbytes_len x.node).1
  have h4 := (vbytes_len x.cmd.kind).1
  have h5 := putW_len2 (wantB v x.cmd.kind) x.cmd h 6
  unfold entB
  simp only [List.length_append]
  omega
theorem entsB_len (v : Int) : ∀ (l : List Ent), (∀ x ∈ l, x.sz) → (entsB v l).length ≤ 398 * l.length
  | [], _ => by simp [entsB]
  | x :: l, h => by
    have h1 := entB_len v (h x (by simp))
    have h2 := entsB_len v l (fun y hy => h y (by simp [hy]))
    unfold entsB at h2 ⊢
    rw [List.map_cons, List.flatten_cons, List.length_append, List.length_cons, Nat.mul_succ]
    omega
theorem entsB_take {v : Int} {l : List Ent} {k : Nat} (h : k < l.length) : entsB v (l.take (k + 1)) = entsB v (l.take k) ++ entB v l[k] := by
  unfold entsB
  rw [List.take_add_one, List.getElem?_eq_getElem h, List.map_append, List.flatten_append]
  simp only [Option.toList_some, List.map_cons, List.map_nil, List.flatten_cons, List.flatten_nil, List.append_nil]
theorem i64_le {n : Int} (h : (Lit.int .i64 n).wf = true) : n ≤ 9223372036854775807 := by
  simp [Lit.wf, IntKind.min, IntKind.max, IntKind.signed, IntKind.bits] at h
  omega
theorem eput_s {G : GH} {bl : List Int} {sv lv : Value} {l : List Ent} (v : Int) (wb : Nat) (hs : Sl G 1 (IntR .u8) sv bl) (hbl : bl.length ≤ 1000) (hls : Es G lv l) (hn : l.length ≤ 40) (hz : ∀ x ∈ l, x.sz) :
    Con Tryd.prog 39 #[.pointer (some ⟨wb, 0, none⟩), .int .i64 v, lv] G [(wb, .cells [sv].toArray 66 (0, 0))]
      (fun r G' μ' => ∃ v', μ' = [(wb, .cells [v'].toArray 66 (0, 0))] ∧ Sl G' 1 (IntR .u8) v' (bl ++ vbytes l.length ++ entsB v l)) := by
  obtain ⟨A, c, rfl, hlc, hcm, hsome, hcp, hcb, hcc, hok⟩ := esOpen hls
  simp only [maxLen] at hcm
  refine v_enter Tryd.func39 rfl Tryd.ntmps39 rfl (fun B => ?_)
  repeat' (first | apply v_seq | apply v_region | (apply v_pure; (case hop => first | (apply p_move <;> rfl) | (apply p_lenSlice <;> rfl) | fail); (case hd => rfl)) | fail)
  refine v_call (μ1 := [(wb, _)]) (μ2 := _) rfl (wnumber_s wb (l.length : Nat) hs (by omega) (by omega)) (PickA.perm (by repeat (first | exact PickA.last | fail))) rfl ?_
  rintro r0 G0 μ0 hle0 ⟨v0, rfl, hv0⟩
  have hl1 : (bl ++ vbytes l.length).length ≤ 1011 := by
    rw [List.length_append]
    have := (vbytes_len (l.length : Nat)).1
    omega
  generalize bl ++ vbytes l.length = b1 at *
  repeat' (first | apply v_seq | apply v_region | apply v_nil | apply v_block | (apply v_pure; (case hop => first | (apply p_move <;> rfl) | (apply p_lenSlice <;> rfl) | fail); (case hd => rfl)) | fail)
  refine v_loop [14, 13, 12, 0, 1] (fun us G' μ' => GH.le G0 G' ∧ ∃ (k : Nat) (w : Value), k ≤ l.length ∧ us = [Value.int .i64 (k : Nat), .int .i64 (l.length : Nat), .slice A l.length c, .pointer (some ⟨wb, 0, none⟩), .int .i64 v] ∧ μ' = [(wb, .cells [w].toArray 66 (0, 0))] ∧ Sl G' 1 (IntR .u8) w (b1 ++ entsB v (l.take k))) (fun us => l.length - (headI us).toNat) rfl ⟨GH.le_refl _, 0, _, by omega, rfl, rfl, by simpa [entsB] using hv0⟩ ?_
  rintro us G2 μ' ⟨hle2, k, w, hk, rfl, rfl, hw⟩
  by_cases hlt : k < l.length
  · have hle := GH.le_trans hle0 hle2
    have hcp' : ∀ i (h : i < l.length), CellsG G2 ((adr A).add (i * 10)) l[i].cells := fun i h => (hcp i h).le hle
    have hlen : (b1 ++ entsB v (l.take k)).length ≤ 20000 := by
      rw [List.length_append]
      have := entsB_len v (l.take k) (fun x hx => hz x (List.mem_of_mem_take hx))
      rw [List.length_take] at this
      omega
    have hx := hok k hlt
    have hsz := hz _ (List.getElem_mem hlt)
    have et := entsB_take (v := v) hlt
    obtain ⟨x, hxe⟩ : ∃ x, x = l[k] := ⟨_, rfl⟩
    have hcx : CellsG G2 ((adr A).add (k * 10)) x.cells := by rw [hxe]; exact hcp' k hlt
    rw [← hxe] at hx hsz et
    obtain ⟨hx1, hx2, hx3, hx4⟩ := hx
    have hx1 := i64_le hx1
    have hx2 := i64_le hx2
    have hx3 := i64_le hx3
    have hsz' := hsz
    unfold Ent.sz at hsz
    repeat' (first | apply v_seq | apply v_region | apply v_nil | apply v_skip | apply v_block | (apply v_pure; (case hop => first | (apply p_move <;> rfl) | (apply p_lt <;> rfl) | (apply p_fieldAddrB <;> rfl) | (apply p_indexAddrS; (case hx => rfl); (case hi => rfl); (case h0 => omega); (case h => omega); (case hA => first | (apply_assumption; omega))) | fail); (case hd => rfl)) | (apply v_cond; (case hc => rfl); all_goals (intro h; (try simp only [reduceCtorEq, dec_true, dec_false, decide_eq_true_eq, decide_eq_false_iff_not, Bool.not_eq_true', Bool.not_eq_false', Option.isNone_iff_eq_none, beq_true, beq_false, beq_iff_eq, beq_eq_false_iff_ne, ne_eq, decide_eq_decide, Bool.not_eq_true, Bool.not_eq_false, Decidable.not_not] at h); first | (exfalso; omega) | skip)) | (apply v_read; (case hop => first | (apply r_loadN; rfl; exact CellsAt.frozen hcx; rfl)); (case hd => rfl)) | (apply v_read; (case hop => first | (apply r_load1; rfl; (apply Cell.own; (case h => (repeat (first | exact List.Mem.head _ | fail))); rfl)) | fail); (case hd => rfl)) | (apply v_alloc; (case hz => rfl); (case hd => rfl); intro b) | (apply v_store; (case hp => rfl); (case hx => rfl); (case hc => rfl); (case hsz => rfl); (case h1 => rfl); (case hb => (repeat (first | exact List.Mem.head _ | fail))); (case hfit => first | exact Nat.le_of_ble_eq_true rfl | fail); (case hov => (first | ((repeat (first | with_reducible exact ov_nil | apply ov_cons | fail)); done) | fail)); (case hu => repeat (first | exact Upd.here _ _ | fail))) | fail)
    refine v_call (μ1 := [(wb, _)]) (μ2 := _) rfl (wnumber_s wb x.index hw (by omega) hx1) (PickA.perm (by repeat (first | exact PickA.last | apply PickA.cons | fail))) rfl ?_
    rintro r1 G3 μ1 hle3 ⟨w1, rfl, hw1⟩
    have hv1 := (vbytes_len x.index).1
    have hv2 := (vbytes_len x.round).1
    have hv3 := (vbytes_len x.node).1
    repeat' (first | apply v_seq | apply v_region | apply v_nil | (apply v_pure; (case hop => first | (apply p_move <;> rfl) | (apply p_fieldAddrB <;> rfl) | fail); (case hd => rfl)) | (apply v_read; (case hop => first | (apply r_load1; rfl; (apply Cell.own; (case h => (repeat (first | exact List.Mem.head _ | apply List.Mem.tail | fail))); rfl)) | fail); (case hd => rfl)) | fail)
    refine v_call (μ1 := [(wb, _)]) (μ2 := _) rfl (wnumber_s wb x.round hw1 (by rw [List.length_append]; omega) hx2) (PickA.perm (by repeat (first | exact PickA.here _ | fail))) rfl ?_
    rintro r2 G4 μ2 hle4 ⟨w2, rfl, hw2⟩
    repeat' (first | apply v_seq | apply v_region | apply v_nil | (apply v_pure; (case hop => first | (apply p_move <;> rfl) | (apply p_fieldAddrB <;> rfl) | fail); (case hd => rfl)) | (apply v_read; (case hop => first | (apply r_load1; rfl; (apply Cell.own; (case h => (repeat (first | exact List.Mem.head _ | apply List.Mem.tail | fail))); rfl)) | fail); (case hd => rfl)) | fail)
    refine v_call (μ1 := [(wb, _)]) (μ2 := _) rfl (wnumber_s wb x.node hw2 (by rw [List.length_append, List.length_append]; omega) hx3) (PickA.perm (by repeat (first | exact PickA.here _ | fail))) rfl ?_
    rintro r3 G5 μ3 hle5 ⟨w3, rfl, hw3⟩
    repeat' (first | apply v_region | apply v_nil | (apply v_pure; (case hop => first | (apply p_move <;> rfl) | (apply p_fieldAddrB <;> rfl) | fail); (case hd => rfl)) | (apply v_read; (case hop => first | (apply r_loadNo; (case hx => rfl); (case h => (repeat (first | exact List.Mem.head _ | apply List.Mem.tail | fail))); (case hd => (repeat (first | with_reducible exact dt_nil | apply dt_here | fail))); (case hn => rfl)) | fail); (case hd => rfl)) | fail)
    refine v_call (μ1 := [(wb, _)]) (μ2 := _) rfl (cputV_s v x.cmd hx4 (by omega) (by omega) (by omega) wb hw3 (by rw [List.length_append, List.length_append, List.length_append]; omega)) (PickA.perm (by repeat (first | exact PickA.here _ | fail))) rfl ?_
    rintro r4 G6 μ4 hle6 ⟨w4, rfl, hw4⟩
    repeat' (first | apply v_region | apply v_nil | apply v_blk | (apply v_pure; (case hop => first | (apply p_move <;> rfl) | (apply p_add; (case hx => rfl); (case hy => rfl); (case h => omega)) | fail); (case hd => rfl)) | fail)
    refine v_drop (ν := [(wb, _)]) (by repeat (first | exact List.nil_sublist _ | apply List.Sublist.cons_cons | fail)) ?_
    refine v_again rfl ⟨GH.le_trans (GH.le_trans (GH.le_trans (GH.le_trans hle2 hle3) hle4) hle5) hle6, k + 1, w4, by omega, rfl, rfl, ?_⟩ (by simp [headI]; omega)
    rw [et, entB]
    simpa using hw4
  · obtain rfl : k = l.length := by omega
    rw [List.take_length] at hw
    repeat' (first | apply v_seq | apply v_region | apply v_nil | (apply v_exit; (case hp => rfl)) | (apply v_pure; (case hop => first | (apply p_lt <;> rfl) | fail); (case hd => rfl)) | (apply v_cond; (case hc => rfl); all_goals (intro h; (try simp only [reduceCtorEq, dec_true, dec_false, decide_eq_true_eq, decide_eq_false_iff_not, Bool.not_eq_true', Bool.not_eq_false', Option.isNone_iff_eq_none, beq_true, beq_false, beq_iff_eq, beq_eq_false_iff_ne, ne_eq, decide_eq_decide, Bool.not_eq_true, Bool.not_eq_false, Decidable.not_not] at h); first | (exfalso; omega) | skip)) | fail)
    refine v_end [(wb, _)] (outsA0 rfl) (by repeat (first | exact List.Sublist.refl _ | fail)) ?_
    exact ⟨_, rfl, hw⟩
/-! ### Get -/
/-- What is read of so many entries. -/
def getE (v : Int) : Nat → Option (List Int) → List Ent × Option (List Int)
  | 0, s => ([], s)
  | m + 1, s => (⟨nV s, nV (nS s), nV (nS (nS s)), (getW (wantB v (nV (nS (nS (nS s))))) (nS (nS (nS s))) 6).1⟩ :: (getE v m (getW (wantB v (nV (nS (nS (nS s))))) (nS (nS (nS s))) 6).2).1, (getE v m (getW (wantB v (nV (nS (nS (nS s))))) (nS (nS (nS s))) 6).2).2)
theorem getE_ok (v : Int) : ∀ (m : Nat) (s : Option (List Int)), byteS s → ∀ x ∈ (getE v m s).1, x.ok
  | 0, s, _, x, hx => by simp [getE] at hx
  | m + 1, s, hb, x, hx => by
    have h1 := numS_b hb 9223372036854775807
    have h2 := numS_b h1 9223372036854775807
    have h3 := numS_b h2 9223372036854775807
    have h4 := getW_ok (wantB v (nV (nS (nS (nS s))))) h3 6
    rw [getE, List.mem_cons] at hx
    obtain rfl | hx := hx
    · exact ⟨wf64 (numV_b hb _), wf64 (numV_b h1 _), wf64 (numV_b h2 _), h4.1⟩
    · exact getE_ok v m _ h4.2 x hx
theorem cntV_b {s : Option (List Int)} (hb : byteS s) : 0 ≤ cntV 256 s ∧ cntV 256 s ≤ 256 := by
  unfold cntV
  cases s with
  | none => simp
  | some r =>
    simp only
    cases hd : dvk 0 r with
    | none => simp
    | some p =>
      have := vbytes_dvk (m := p.1) (r' := p.2) (hb r rfl) hd
      simp only
      split <;> omega
theorem cntS_b {s : Option (List Int)} (hb : byteS s) : byteS (cntS 256 s) := by
  unfold cntS
  cases s with
  | none => exact hb
  | some r =>
    simp only
    cases hd : dvk 0 r with
    | none => intro r h; cases h
    | some p =>
      simp only
      split
      · intro r h; cases h
      · intro r2 h2 x hx
        cases h2
        exact hb r rfl x (dvk_sub (m := p.1) (r' := p.2) hd x hx)
theorem eget_s {G : GH} {l : List Int} {bv : Value} {s : Option (List Int)} (v : Int) (rb a : Nat) (no : Int) (hs : Sl G 1 (IntR .u8) bv l) (hl : l.length ≤ 1048576) (hr : RdS l a no s) (hby : byteS s) :
    Con Tryd.prog 42 #[.pointer (some ⟨rb, 0, none⟩), .int .i64 v] G [(rb, rdO bv a no)]
      (fun r G' μ' => Es G' r (getE v (cntV 256 s).toNat (cntS 256 s)).1 ∧ ∃ a' no', μ' = [(rb, rdO bv (a' : Nat) no')] ∧ RdS l a' no' (getE v (cntV 256 s).toNat (cntS 256 s)).2) := by
  have hcb := cntV_b hby
  have hsb := cntS_b hby
  have q := rdCount_s rb a no 256 hs hl hr
  have hok := getE_ok v (cntV 256 s).toNat (cntS 256 s) hsb
  generalize cntV 256 s = n at *
  generalize cntS 256 s = s0 at *
  obtain ⟨m, rfl⟩ : ∃ m : Nat, n = m := ⟨n.toNat, by omega⟩
  have e1 : ((m : Nat) : Int).toNat = m := by omega
  rw [e1] at hok ⊢
  refine v_enter Tryd.func42 rfl Tryd.ntmps42 rfl (fun B => ?_)
  repeat' (first | apply v_seq | apply v_region | apply v_nil | (apply v_pure; (case hop => first | (apply p_move <;> rfl) | (apply p_assign <;> rfl) | fail); (case hd => rfl)) | fail)
  refine v_call (μ1 := [(rb, _)]) (μ2 := _) rfl q (PickA.perm (by repeat (first | exact PickA.last | fail))) rfl ?_
  rintro _ _ _ - ⟨rfl, rfl, a0, no0, rfl, hr0⟩
  repeat' (first | apply v_nil | apply v_block | (apply v_pure; (case hop => first | (apply p_move <;> rfl) | fail); (case hd => rfl)) | fail)
  refine v_loop [9, 5, 8, 0, 1] (fun us G' μ' => GH.le G' G' ∧ ∃ (k : Nat) (out : List Ent) (ov : Value) (ν : OH) (sk : Option (List Int)) (a' : Nat) (no' : Int), Sl G' 1 (IntR .u8) bv l ∧ k ≤ m ∧ us = [Value.int .i64 (k : Nat), ov, .int .i64 (m : Nat), .pointer (some ⟨rb, 0, none⟩), .int .i64 v] ∧ μ' = ν ++ [(rb, rdO bv a' no')] ∧ Grow 50 10 ov out.length (esC out) ν ∧ out.length = k ∧ RdS l a' no' sk ∧ getE v m s0 = (out ++ (getE v (m - k) sk).1, (getE v (m - k) sk).2)) (fun us => m - (headI us).toNat) rfl ⟨GH.le_refl _, 0, [], _, [], s0, a0, no0, hs, by omega, rfl, rfl, Grow.nil _ _, rfl, hr0, rfl⟩ ?_
  rintro us G2 μ' ⟨-, k, out, ov, ν, sk, a2, no2, hs2, hk, rfl, rfl, hg, hol, hr2, hge⟩
  by_cases hlt : k < m
  · obtain ⟨A0, c0, rfl, -, -⟩ := hg.shape
    repeat' (first | apply v_seq | apply v_region | apply v_nil | apply v_skip | apply v_block | (apply v_pure; (case hop => first | (apply p_move <;> rfl) | (apply p_lt <;> rfl) | fail); (case hd => rfl)) | (apply v_cond; (case hc => rfl); all_goals (intro h; (try simp only [reduceCtorEq, dec_true, dec_false, decide_eq_true_eq, decide_eq_false_iff_not, Bool.not_eq_true', Bool.not_eq_false', Option.isNone_iff_eq_none, beq_true, beq_false, beq_iff_eq, beq_eq_false_iff_ne, ne_eq, decide_eq_decide, Bool.not_eq_true, Bool.not_eq_false, Decidable.not_not] at h); first | (exfalso; omega) | skip)) | fail)
    refine v_call (μ1 := [(rb, _)]) (μ2 := _) rfl (rdNumber_s rb _ _ 9223372036854775807 hs2 hl hr2) (PickA.perm (by repeat (first | exact PickA.last | apply PickA.app))) rfl ?_
    rintro _ _ _ - ⟨rfl, rfl, a3, no3, rfl, hr3⟩
    repeat' (first | apply v_seq | apply v_region | apply v_nil | (apply v_pure; (case hop => first | (apply p_move <;> rfl) | (apply p_build; (case hz => rfl); (case hv => (simp only [List.map_cons, List.map_nil]; repeat (first | with_reducible exact evs_nil | (apply evs_cons; (case h1 => rfl))))); (case hb => (apply bldL; repeat (first | exact bld_nil | (apply bld_cons; (case hpf => rfl); (case hc => rfl); (case hs => rfl); (case hl => rfl); (case ho => (first | ((repeat (first | with_reducible exact ov_nil | apply ov_cons | fail)); done) | fail)))))))); (case hd => rfl)) | (apply v_alloc; (case hz => rfl); (case hd => rfl); intro b) | (apply v_store; (case hp => rfl); (case hx => rfl); (case hc => rfl); (case hsz => rfl); (case h1 => rfl); (case hb => (repeat (first | exact List.Mem.head _ | fail))); (case hfit => first | exact Nat.le_of_ble_eq_true rfl | fail); (case hov => (first | ((repeat (first | with_reducible exact ov_nil | apply ov_cons | fail)); done) | fail)); (case hu => repeat (first | exact Upd.here _ _ | fail))) | fail)
    rename Nat => eb
    refine v_call (μ1 := [(rb, _)]) (μ2 := _) rfl (rdNumber_s rb _ _ 9223372036854775807 hs2 hl hr3) (PickA.perm (by repeat (first | exact PickA.here _ | apply PickA.cons | fail))) rfl ?_
    rintro _ _ _ - ⟨rfl, rfl, a4, no4, rfl, hr4⟩
    repeat' (first | apply v_seq | apply v_region | apply v_nil | (apply v_pure; (case hop => first | (apply p_move <;> rfl) | (apply p_fieldAddrB <;> rfl) | fail); (case hd => rfl)) | (apply v_store; (case hp => rfl); (case hx => rfl); (case hc => rfl); (case hsz => rfl); (case h1 => rfl); (case hb => (repeat (first | exact List.Mem.head _ | apply List.Mem.tail | fail))); (case hfit => first | exact Nat.le_of_ble_eq_true rfl | fail); (case hov => (first | ((repeat (first | with_reducible exact ov_nil | apply ov_cons | fail)); done) | fail)); (case hu => repeat (first | exact Upd.here _ _ | apply Upd.there | fail))) | fail)
    refine v_call (μ1 := [(rb, _)]) (μ2 := _) rfl (rdNumber_s rb _ _ 9223372036854775807 hs2 hl hr4) (PickA.perm (by repeat (first | exact PickA.here _ | fail))) rfl ?_
    rintro _ _ _ - ⟨rfl, rfl, a5, no5, rfl, hr5⟩
    repeat' (first | apply v_seq | apply v_region | apply v_nil | (apply v_pure; (case hop => first | (apply p_move <;> rfl) | (apply p_fieldAddrB <;> rfl) | fail); (case hd => rfl)) | (apply v_store; (case hp => rfl); (case hx => rfl); (case hc => rfl); (case hsz => rfl); (case h1 => rfl); (case hb => (repeat (first | exact List.Mem.head _ | apply List.Mem.tail | fail))); (case hfit => first | exact Nat.le_of_ble_eq_true rfl | fail); (case hov => (first | ((repeat (first | with_reducible exact ov_nil | apply ov_cons | fail)); done) | fail)); (case hu => repeat (first | exact Upd.here _ _ | apply Upd.there | fail))) | fail)
    refine v_call (μ1 := [(rb, _)]) (μ2 := _) rfl (cgetV_s v rb _ _ hs2 hl hr5) (PickA.perm (by repeat (first | exact PickA.here _ | fail))) rfl ?_
    rintro _ G3 _ hle3 ⟨rfl, a6, no6, rfl, hr6⟩
    obtain ⟨j, hj⟩ : ∃ j, m - k = j + 1 := ⟨m - k - 1, by omega⟩
    have hge2 : getE v m s0 = ((out ++ [(⟨nV sk, nV (nS sk), nV (nS (nS sk)), (getW (wantB v (nV (nS (nS (nS sk))))) (nS (nS (nS sk))) 6).1⟩ : Ent)]) ++ (getE v (m - (k + 1)) (getW (wantB v (nV (nS (nS (nS sk))))) (nS (nS (nS sk))) 6).2).1, (getE v (m - (k + 1)) (getW (wantB v (nV (nS (nS (nS sk))))) (nS (nS (nS sk))) 6).2).2) := by
      rw [hge, hj, show m - (k + 1) = j by omega]
      simp [getE]
    repeat' (first | apply v_region | apply v_nil | (apply v_pure; (case hop => first | (apply p_move <;> rfl) | (apply p_fieldAddrB <;> rfl) | fail); (case hd => rfl)) | (apply v_read; (case hop => first | (apply r_loadNo; (case hx => rfl); (case h => (repeat (first | exact List.Mem.head _ | apply List.Mem.tail | fail))); (case hd => (repeat (first | with_reducible exact dt_nil | apply dt_here | fail))); (case hn => rfl)) | fail); (case hd => rfl)) | (apply v_buildSlice; (case hz => rfl); (case hi => rfl); (case hv => (simp only [List.map_cons, List.map_nil]; repeat (first | with_reducible exact evs_nil | (apply evs_cons; (case h1 => rfl))))); (case hp => (first | (apply pk_cons; (case hc => rfl); (case hs => rfl); (case h => (first | with_reducible exact pk_nil | fail)); (case he => (first | ((repeat (first | with_reducible exact ap_nil | apply ap_cons)); done) | fail))) | fail)); (case hb => rfl); (case hd => rfl); intro b) | (apply v_store; (case hp => rfl); (case hx => rfl); (case hc => rfl); (case hsz => rfl); (case h1 => rfl); (case hb => (repeat (first | exact List.Mem.head _ | apply List.Mem.tail | fail))); (case hfit => first | exact Nat.le_of_ble_eq_true rfl | fail); (case hov => (first | ((repeat (first | with_reducible exact ov_nil | apply ov_cons | fail)); done) | fail)); (case hu => repeat (first | exact Upd.here _ _ | apply Upd.there | fail))) | fail)
    refine v_append (e := 50) (agg := true) (sz := 10) (bytes := 104) (zero := zE) rfl (by omega) rfl rfl hg (PickA.perm (by repeat (first | exact PickA.here _ | apply PickA.cons | fail))) (m' := 1) (us := Ent.cells ⟨nV sk, nV (nS sk), nV (nS (nS sk)), (getW (wantB v (nV (nS (nS (nS sk))))) (nS (nS (nS sk))) 6).1⟩) (Src.own (e := 50) (List.Mem.head _) rfl) rfl (by omega) (by simp only [maxLen]; omega) rfl fun v1 ν1 hg1 => ?_
    repeat' (first | apply v_region | apply v_nil | apply v_blk | (apply v_pure; (case hop => first | (apply p_move <;> rfl) | (apply p_assign <;> rfl) | (apply p_add; (case hx => rfl); (case hy => rfl); (case h => omega)) | fail); (case hd => rfl)) | fail)
    refine v_drop (ν := ν1 ++ [(rb, _)]) (List.Sublist.append (List.Sublist.refl _) (by repeat (first | exact List.nil_sublist _ | apply List.Sublist.cons_cons | apply List.Sublist.cons | fail))) ?_
    refine v_again rfl ⟨GH.le_refl _, k + 1, out ++ [⟨nV sk, nV (nS sk), nV (nS (nS sk)), (getW (wantB v (nV (nS (nS (nS sk))))) (nS (nS (nS sk))) 6).1⟩], v1, ν1, _, a6, no6, hs2.mono hle3, by omega, rfl, rfl, ?_, by simp; omega, hr6, hge2⟩ (by simp [headI]; omega)
    rw [esC_append, List.length_append]
    simpa [esC] using hg1
  · obtain rfl : k = m := by omega
    rw [Nat.sub_self] at hge
    have e2 : getE v 0 sk = ([], sk) := rfl
    rw [e2, List.append_nil] at hge
    rw [hge] at hok ⊢
    obtain ⟨A0, c0, rfl, -, -⟩ := hg.shape
    repeat' (first | apply v_seq | apply v_region | apply v_nil | (apply v_exit; (case hp => rfl)) | (apply v_pure; (case hop => first | (apply p_move <;> rfl) | (apply p_lt <;> rfl) | (apply p_assign <;> rfl) | fail); (case hd => rfl)) | (apply v_cond; (case hc => rfl); all_goals (intro h; (try simp only [reduceCtorEq, dec_true, dec_false, decide_eq_true_eq, decide_eq_false_iff_not, Bool.not_eq_true', Bool.not_eq_false', Option.isNone_iff_eq_none, beq_true, beq_false, beq_iff_eq, beq_eq_false_iff_ne, ne_eq, decide_eq_decide, Bool.not_eq_true, Bool.not_eq_false, Decidable.not_not] at h); first | (exfalso; omega) | skip)) | fail)
    refine v_frz ν (by repeat (first | exact PickA.here _ | fail)) ?_
    intro G3 hle3 hG3
    refine v_ret [(rb, _)] (outsA1 rfl rfl) (by repeat (first | exact List.Sublist.refl _ | fail)) ?_
    exact ⟨es_of_grow hg hG3 hok, a2, no2, rfl, hr2⟩
end Go.Proofs.YtnoiahlpmgbhfaaDoor
/-
  entry (layer 12), the sixth part: With; the example.
-/
set_option linter.unusedSimpArgs false
set_option linter.unusedVariables false
namespace Go.Proofs.YtnoiahlpmgbhfaaDoor
open Go.Vx Go.ChangeShapes Go.WideShapes Go.ChangeAt Go.RowKit
/-- Entries with another one. -/
noncomputable def withL (l : List Ent) (x : Ent) : List Ent := if hitB l x.index = true then l.set (placeN l x.index) x else l.take (placeN l x.index) ++ x :: l.drop (placeN l x.index)
theorem hitB_lt {l : List Ent} {n : Int} (h : hitB l n = true) : placeN l n < l.length := by
  unfold hitB at h
  by_cases h' : placeN l n < l.length
  · exact h'
  · rw [dif_neg h'] at h; cases h
theorem placeN_le (l : List Ent) (n : Int) : placeN l n ≤ l.length := List.countP_le_length
theorem withL_len (l : List Ent) (x : Ent) : (withL l x).length = if hitB l x.index = true then l.length else l.length + 1 := by
  unfold withL
  have := placeN_le l x.index
  split
  · simp
  · simp; omega
theorem esC_set (l : List Ent) (x : Ent) (sp : List Value) (p : Nat) (hp : p < l.length) : over (esC l ++ sp) (p * 10) x.cells = esC (l.set p x) ++ sp := by
  have e : l.set p x = l.take p ++ x :: l.drop (p + 1) := List.set_eq_take_append_cons_drop.trans (if_pos hp)
  have e1 : (esC l ++ sp).take (p * 10) = esC (l.take p) := by rw [List.take_append_of_le_length (by rw [esC_length]; omega), esC_take]
  have e2 : (esC l ++ sp).drop (p * 10 + x.cells.length) = esC (l.drop (p + 1)) ++ sp := by
    rw [cells_length, show p * 10 + 10 = (p + 1) * 10 by omega, List.drop_append_of_le_length (by rw [esC_length]; omega), esC_drop]
  rw [over, e1, e2, e, esC_append, esC_cons]
  simp
theorem with_s {G : GH} {l : List Ent} {sv : Value} (x : Ent) (hs : Es G sv l) (hr : RiseL l) (hn : l.length ≤ 40) : Con Tryd.prog 73 #[sv, .agg x.cells.toArray] G [] (fun r G' μ' => G' = G ∧ Grow 50 10 r (withL l x).length (esC (withL l x)) μ') := by
  have qp := place_s x.index hs hr
  have qc := entClone_s hs hn
  have hlp := placeN_le l x.index
  refine v_enter Tryd.func73 rfl Tryd.ntmps73 rfl (fun B => ?_)
  repeat' (first | apply v_seq | apply v_region | apply v_nil | (apply v_pure; (case hop => first | (apply p_move <;> rfl) | (apply p_assign <;> rfl) | (apply p_fieldAddrB <;> rfl) | (apply p_extract0 <;> rfl) | (apply p_extract1 <;> rfl) | fail); (case hd => rfl)) | (apply v_box (zs := x.cells); (case hx => rfl); (case hz => rfl); (case hd => rfl); intro bx) | (apply v_callJ (hs := qp); (case ha => rfl); (case hd => rfl)) | (apply v_read; (case hop => first | (apply r_load1; rfl; (apply Cell.own; (case h => (repeat (first | exact List.Mem.head _ | fail))); rfl)) | fail); (case hd => rfl)) | fail)
  refine v_call (μ1 := []) (μ2 := _) rfl qc (List.Perm.refl _) rfl ?_
  rintro r G' μ1 _ ⟨rfl, hg⟩
  clear qp qc
  cases hh : hitB l x.index
  · have el : withL l x = l.take (placeN l x.index) ++ x :: l.drop (placeN l x.index) := by rw [withL, if_neg (by rw [hh]; decide)]
    have ell : (withL l x).length = l.length + 1 := by rw [withL_len, if_neg (by rw [hh]; decide)]
    rw [ell, el]
    generalize placeN l x.index = p at *
    obtain ⟨A, c, rfl, hc1, hc2⟩ := hg.shape
    repeat' (first | apply v_seq | apply v_region | apply v_nil | apply v_skip | (apply v_pure; (case hop => first | (apply p_move <;> rfl) | (apply p_assign <;> rfl) | fail); (case hd => rfl)) | (apply v_condF; (case hc => rfl)) | (apply v_read; (case hop => first | (apply r_loadNo; (case hx => rfl); (case h => (repeat (first | exact List.Mem.head _ | apply List.mem_append_right))); (case hd => (repeat (first | with_reducible exact dt_nil | apply dt_here | fail))); (case hn => rfl)) | fail); (case hd => rfl)) | (apply v_buildSlice; (case hz => rfl); (case hi => rfl); (case hv => (simp only [List.map_cons, List.map_nil]; repeat (first | with_reducible exact evs_nil | (apply evs_cons; (case h1 => rfl))))); (case hp => (first | (apply pk_cons; (case hc => rfl); (case hs => rfl); (case h => (first | with_reducible exact pk_nil | fail)); (case he => (first | ((repeat (first | with_reducible exact ap_nil | apply ap_cons)); done) | fail))) | fail)); (case hb => rfl); (case hd => rfl); intro b) | fail)
    refine v_call (μ1 := μ1 ++ [(b, .cells x.cells.toArray 50 (0, 0))]) (μ2 := [(bx, .cells x.cells.toArray 50 (0, 0))]) rfl (entInsert_s x b p hg hlp hn) (show List.Perm ((b, Obj.cells x.cells.toArray 50 (0, 0)) :: (μ1 ++ [(bx, Obj.cells x.cells.toArray 50 (0, 0))])) _ from (by apply perm_of_count; intro p; simp only [List.countP_append, List.countP_cons, List.countP_nil, Nat.zero_add, Nat.add_zero]; try ac_rfl)) rfl ?_
    rintro r' G1 μ2 _ ⟨rfl, hg'⟩
    repeat' (first | apply v_nil | (apply v_pure; (case hop => first | (apply p_assign <;> rfl) | fail); (case hd => rfl)) | fail)
    refine v_ret μ2 (outsA1 rfl rfl) (by repeat (first | exact List.sublist_append_left _ _ | fail)) ?_
    exact ⟨rfl, hg'⟩
  · have el : withL l x = l.set (placeN l x.index) x := by rw [withL, if_pos hh]
    have hlt := hitB_lt hh
    rw [el, List.length_set]
    generalize placeN l x.index = p at *
    obtain ⟨hxl, ⟨rfl, h0, rfl⟩ | ⟨b1, cap, spare, rfl, rfl, hc1, hc2, hc3⟩⟩ := hg
    · omega
    simp only [maxLen] at hc2
    simp only [List.singleton_append]
    rw [List.length_append, esC_length] at hc3
    repeat' (first | apply v_seq | apply v_region | apply v_nil | (apply v_pure; (case hop => first | (apply p_move <;> rfl) | (apply p_assign <;> rfl) | (apply p_indexAddr; (case hx => rfl); (case hi => rfl); (case h0 => omega); (case h => omega)) | fail); (case hd => rfl)) | (apply v_condT; (case hc => rfl)) | (apply v_read; (case hop => first | (apply r_loadNo; (case hx => rfl); (case h => (repeat (first | exact List.Mem.head _ | apply List.Mem.tail | fail))); (case hd => (repeat (first | with_reducible exact dt_nil | apply dt_here | fail))); (case hn => rfl)) | fail); (case hd => rfl)) | fail)
    refine v_store (agg := true) (sz := 10) (bytes := 104) (zero := zE) (b := b1) (i := p * 10) (us := x.cells) (vs' := esC (l.set p x) ++ spare) (show some (Value.pointer (some ((⟨b1, 0, none⟩ : Addr).add (p * 10)))) = _ by rw [add_mk, Nat.zero_add]) rfl rfl rfl rfl (by (repeat (first | exact List.Mem.head _ | fail))) (by rw [cells_length, List.length_append, hxl]; omega) (esC_set l x spare p hlt) (by (repeat (first | exact Upd.here _ _ | fail))) ?_
    repeat' (first | apply v_seq | apply v_region | apply v_nil | (apply v_pure; (case hop => first | (apply p_move <;> rfl) | (apply p_assign <;> rfl) | fail); (case hd => rfl)) | fail)
    refine v_ret [(b1, _)] (outsA1 rfl rfl) (by repeat (first | exact List.nil_sublist _ | apply List.Sublist.cons_cons | fail)) ?_
    exact ⟨rfl, by rw [esC_length, List.length_set], .inr ⟨b1, cap, spare, rfl, rfl, hc1, by simp only [maxLen]; omega, by rw [List.length_append, esC_length, List.length_set]; omega⟩⟩
/-! ### The example -/
def exC : Cm := ⟨1, 0, 0, ByteArray.empty, ByteArray.empty, ByteArray.empty, 0⟩
def exE (i : Int) : Ent := ⟨i, 0, 0, exC⟩
theorem exOne (i : Int) (h : 1 ≤ i ∧ i ≤ 9) : oneI (exE i) = 0 := by
  rw [oneI, if_neg]
  · show cmdI exC = 0
    rw [cmdI_eq]
    simp [cmdE, exC]
  · rintro (h' | h' | h')
    · simp only [exE] at h'; omega
    · simp only [exE] at h'; omega
    · exact h' (.inl ⟨rfl, rfl⟩)
theorem exE_ok (i : Int) (h : i = 1 ∨ i = 3 ∨ i = 4) : (exE i).ok := by
  obtain rfl | rfl | rfl := h
  all_goals
    refine ⟨by decide, by decide, by decide, ?_⟩
    refine ⟨?_, ?_, ?_, ?_, ?_, ?_, ?_⟩ <;> decide
theorem exPlace : placeN [exE 1, exE 4] (exE 3).index = 1 := by simp [placeN, exE]
theorem exHit : hitB [exE 1, exE 4] (exE 3).index = false := by
  unfold hitB
  simp only [exPlace]
  rw [dif_pos (by decide)]
  simp [exE]
theorem exWith : withL [exE 1, exE 4] (exE 3) = [exE 1, exE 3, exE 4] := by
  rw [withL, if_neg (by rw [exHit]; decide), exPlace]
  rfl
theorem exRise : RiseL [exE 1, exE 4] := by
  intro i j hj hij
  simp only [List.length_cons, List.length_nil] at hj
  obtain ⟨rfl, rfl⟩ : i = 0 ∧ j = 1 := by omega
  show (1 : Int) < 4
  omega
theorem exCheck : chkK [exE 1, exE 3, exE 4] 0 = 0 := by
  rw [chkK_next (by decide) (exOne 1 (by omega)) (fun h => by omega)]
  rw [chkK_next (k := 1) (by decide) (exOne 3 (by omega)) (fun h => by show ¬ (3 : Int) ≤ 1; omega)]
  rw [chkK_next (k := 2) (by decide) (exOne 4 (by omega)) (fun h => by show ¬ (4 : Int) ≤ 3; omega)]
  exact chkK_end (by decide)
theorem awake12_s {G : GH} (hT : TabsG G) : Con Tryd.prog 38 #[] G [] (Just (.bool true) G) := by
  apply Con.just
  refine v_enter Tryd.func38 rfl Tryd.ntmps38 rfl (fun B => ?_)
  repeat' (first | apply v_seq | apply v_region | apply v_nil | (apply v_pure; (case hop => first | (apply p_assign <;> rfl) | (apply p_build; (case hz => rfl); (case hv => (simp only [List.map_cons, List.map_nil]; repeat (first | with_reducible exact evs_nil | (apply evs_cons; (case h1 => rfl))))); (case hb => (apply bldL; repeat (first | exact bld_nil | (apply bld_cons; (case hpf => rfl); (case hc => rfl); (case hs => rfl); (case hl => rfl); (case ho => (first | ((repeat (first | with_reducible exact ov_nil | apply ov_cons | fail)); done) | fail))))))) | fail); (case hd => rfl)) | (apply v_read; (case hop => first | (apply r_loadNo; (case hx => rfl); (case h => (repeat (first | exact List.Mem.head _ | apply List.Mem.tail | fail))); (case hd => (repeat (first | with_reducible exact dt_nil | apply dt_here | fail))); (case hn => rfl)) | fail); (case hd => rfl)) | (apply v_buildSlice; (case hz => rfl); (case hi => rfl); (case hv => (simp only [List.map_cons, List.map_nil]; repeat (first | with_reducible exact evs_nil | (apply evs_cons; (case h1 => rfl))))); (case hp => (first | (apply pk_cons; (case hc => rfl); (case hs => rfl); (case h => (first | (apply pk_cons; (case hc => rfl); (case hs => rfl); (case h => (first | with_reducible exact pk_nil | fail)); (case he => (first | ((repeat (first | with_reducible exact ap_nil | apply ap_cons)); done) | fail))) | fail)); (case he => (first | ((repeat (first | with_reducible exact ap_nil | apply ap_cons)); done) | fail))) | fail)); (case hb => rfl); (case hd => rfl); intro b) | (apply v_alloc; (case hz => rfl); (case hd => rfl); intro b) | (apply v_store; (case hp => rfl); (case hx => rfl); (case hc => rfl); (case hsz => rfl); (case h1 => rfl); (case hb => (repeat (first | exact List.Mem.head _ | fail))); (case hfit => first | exact Nat.le_of_ble_eq_true rfl | fail); (case hov => (first | ((repeat (first | with_reducible exact ov_nil | apply ov_cons | fail)); done) | fail)); (case hu => repeat (first | exact Upd.here _ _ | fail))) | fail)
  refine v_freeze1 fun G1 hle1 hb1 => ?_
  have hs1 : Es G1 (.slice (some ⟨b, 0, none⟩) 2 2) [exE 1, exE 4] := by
    refine es_of_grow (l := [exE 1, exE 4]) (ν := [(b, .cells (esC [exE 1, exE 4]).toArray 50 (0, 0))]) (Grow.lit (m := 2) (by rw [esC_length]; rfl) (by simp [maxLen])) (fun b' o' hh => ?_) (fun x hx => ?_)
    · simp only [List.mem_singleton, Prod.mk.injEq] at hh
      obtain ⟨rfl, rfl⟩ := hh
      exact hb1
    · simp only [List.mem_cons, List.mem_nil_iff, or_false] at hx
      obtain rfl | rfl := hx
      · exact exE_ok 1 (by omega)
      · exact exE_ok 4 (by omega)
  have qw := with_s (exE 3) hs1 exRise (by decide)
  rw [exWith] at qw
  refine v_call (μ1 := []) (μ2 := _) rfl qw (List.Perm.refl _) rfl ?_
  rintro r G2 μ1 hle2 ⟨rfl, hg⟩
  refine v_frz μ1 (by repeat (first | exact PickA.here _ | fail)) ?_
  intro G3 hle3 hG3
  have hs3 : Es G3 r [exE 1, exE 3, exE 4] := es_of_grow hg hG3 (fun x hx => by
    simp only [List.mem_cons, List.mem_nil_iff, or_false] at hx
    obtain rfl | rfl | rfl := hx
    · exact exE_ok 1 (by omega)
    · exact exE_ok 3 (by omega)
    · exact exE_ok 4 (by omega))
  have qk := entCheck_s ((hT.le hle1).le hle3) hs3
  rw [exCheck] at qk
  obtain ⟨A, c, rfl, hlc, hcm, hsome, hcp, hcb, hcc, hok⟩ := esOpen hs3
  simp only [maxLen] at hcm
  have e1 : GH.cell? G3 (((adr A).add (((1 : Int)).toNat * 10)).add 0) = some (.int .i64 3) := esCell hcp 1 (by decide)
  clear hcp hcb hcc hok hs3 hg hG3 qw hs1 hb1
  generalize hlen : [exE 1, exE 3, exE 4].length = m at *
  obtain rfl : m = 3 := hlen.symm
  repeat' (first | apply v_seq | apply v_region | apply v_nil | (apply v_take; (case hg => rfl)) | (apply v_pure; (case hop => first | (apply p_move <;> rfl) | (apply p_eqs <;> rfl) | (apply p_assign <;> rfl) | (apply p_pickT <;> rfl) | (apply p_lenSlice <;> rfl) | (apply p_fieldAddrB <;> rfl) | (apply p_indexAddrS; (case hx => rfl); (case hi => rfl); (case h0 => omega); (case h => omega); (case hA => first | (apply_assumption; omega))) | fail); (case hd => rfl)) | (apply v_read; (case hop => (apply r_load1; rfl; exact Cell.frozen e1)); (case hd => rfl)) | (apply v_callJ (hs := qk); (case ha => rfl); (case hd => rfl)) | fail)
  refine v_ret [] (outsA1 rfl rfl) (by repeat (first | exact List.nil_sublist _ | fail)) ?_
  exact ⟨rfl, rfl⟩
end Go.Proofs.YtnoiahlpmgbhfaaDoor
/-
  entry (layer 12), the eighth part: rising indices, what is found, equal entries, equal lists.
-/
set_option linter.unusedSimpArgs false
set_option linter.unusedVariables false
namespace Go.Proofs.YtnoiahlpmgbhfaaDoor
open Go.Vx Go.ChangeShapes Go.WideShapes Go.ChangeAt Go.RowKit
theorem cm_feqD (d : Nat) (c c' : Cm) : FEq Tryd.prog (d + 1) c.cells c'.cells [⟨"Kind", 3, 0, false, "", "", 0⟩, ⟨"Client", 3, 1, false, "", "", 8⟩, ⟨"Seq", 3, 2, false, "", "", 16⟩, ⟨"Key", 9, 3, false, "", "", 24⟩, ⟨"Val", 9, 4, false, "", "", 40⟩, ⟨"Old", 9, 5, false, "", "", 56⟩, ⟨"Node", 3, 6, false, "", "", 72⟩] (dec (c.kind = c'.kind) && (dec (c.client = c'.client) && (dec (c.seq = c'.seq) && (dec (c.key = c'.key) && (dec (c.val = c'.val) && (dec (c.old = c'.old) && (dec (c.node = c'.node) && true))))))) :=
  feq_int (k := .i64) (bytes := 8) (zero := .int .i64 0) (sz := 1) (nm := "Kind") (ft := 3) (off := 0) (em := false) (tg := "") (pk := "") (bo := 0) rfl rfl rfl
    (feq_int (k := .i64) (bytes := 8) (zero := .int .i64 0) (sz := 1) (nm := "Client") (ft := 3) (off := 1) (em := false) (tg := "") (pk := "") (bo := 8) rfl rfl rfl
    (feq_int (k := .i64) (bytes := 8) (zero := .int .i64 0) (sz := 1) (nm := "Seq") (ft := 3) (off := 2) (em := false) (tg := "") (pk := "") (bo := 16) rfl rfl rfl
    (feq_str (bytes := 16) (zero := .string ByteArray.empty) (sz := 1) (nm := "Key") (ft := 9) (off := 3) (em := false) (tg := "") (pk := "") (bo := 24) rfl rfl rfl
    (feq_str (bytes := 16) (zero := .string ByteArray.empty) (sz := 1) (nm := "Val") (ft := 9) (off := 4) (em := false) (tg := "") (pk := "") (bo := 40) rfl rfl rfl
    (feq_str (bytes := 16) (zero := .string ByteArray.empty) (sz := 1) (nm := "Old") (ft := 9) (off := 5) (em := false) (tg := "") (pk := "") (bo := 56) rfl rfl rfl
    (feq_int (k := .i64) (bytes := 8) (zero := .int .i64 0) (sz := 1) (nm := "Node") (ft := 3) (off := 6) (em := false) (tg := "") (pk := "") (bo := 72) rfl rfl rfl feq_nil))))))
theorem ent_feq (x y : Ent) : ∃ b, FEq Tryd.prog 9999 x.cells y.cells [⟨"Index", 3, 0, false, "", "", 0⟩, ⟨"Ballot", 25, 1, false, "", "", 8⟩, ⟨"Cmd", 27, 3, false, "", "", 24⟩] b ∧ b = dec (x = y) := by
  refine ⟨_, feq_int (k := .i64) (bytes := 8) (zero := .int .i64 0) (sz := 1) rfl (a := x.index) (b := y.index) rfl rfl (feq_agg (bytes := 16) (zero := .agg #[.int .i64 0, .int .i64 0]) (sz := 2) (us := [.int .i64 x.round, .int .i64 x.node]) (vs := [.int .i64 y.round, .int .i64 y.node]) rfl rfl rfl
    (feq_int (k := .i64) (bytes := 8) (zero := .int .i64 0) (sz := 1) (a := x.round) (b := y.round) rfl rfl rfl (feq_int (k := .i64) (bytes := 8) (zero := .int .i64 0) (sz := 1) (a := x.node) (b := y.node) rfl rfl rfl feq_nil))
    (feq_agg (bytes := 80) (zero := .agg #[.int .i64 0, .int .i64 0, .int .i64 0, .string ByteArray.empty, .string ByteArray.empty, .string ByteArray.empty, .int .i64 0]) (sz := 7) (us := x.cmd.cells) (vs := y.cmd.cells) rfl rfl rfl (cm_feqD 9997 x.cmd y.cmd) feq_nil)), ?_⟩
  rw [cm_dec]
  obtain ⟨a1, a2, a3, a4⟩ := x
  obtain ⟨b1, b2, b3, b4⟩ := y
  rw [Bool.eq_iff_iff]
  simp [dec_true, and_assoc]
theorem eqEnt {σ : Env} {ty t' : TypeId} {a b : Operand} {x y : Ent} (hx : Env.ev σ a = some (.agg x.cells.toArray)) (hy : Env.ev σ b = some (.agg y.cells.toArray)) : PureOp Tryd.prog (.binOp .eql 50 a b t') ty σ (.bool (dec (x = y))) := by
  obtain ⟨q, hq, rfl⟩ := ent_feq x y
  exact p_eqStruct (P := Tryd.prog) (ty := ty) (t := 50) (t' := t') hx hy hq
theorem neEnt {σ : Env} {ty t' : TypeId} {a b : Operand} {x y : Ent} (hx : Env.ev σ a = some (.agg x.cells.toArray)) (hy : Env.ev σ b = some (.agg y.cells.toArray)) : PureOp Tryd.prog (.binOp .neq 50 a b t') ty σ (.bool (!dec (x = y))) := by
  obtain ⟨q, hq, rfl⟩ := ent_feq x y
  exact p_neStruct (P := Tryd.prog) (ty := ty) (t := 50) (t' := t') hx hy hq
noncomputable instance (l : List Ent) : Decidable (RiseL l) := Classical.propDecidable _
theorem entSame_s {G : GH} {a b : List Ent} {av bv : Value} (ha : Es G av a) (hb : Es G bv b) : Con Tryd.prog 44 #[av, bv] G [] (Just (.bool (decide (a = b))) G) := by
  obtain ⟨A, c, rfl, hlc, hcm, hsome, hcp, hcb, hcc, hok⟩ := esOpen ha
  obtain ⟨A', c', rfl, hlc', hcm', hsome', hcp', hcb', hcc', hok'⟩ := esOpen hb
  clear hcb hcc hok hcb' hcc' hok'
  simp only [maxLen] at hcm hcm'
  apply Con.just
  refine v_enter Tryd.func44 rfl Tryd.ntmps44 rfl (fun B => ?_)
  repeat' (first | apply v_seq | apply v_region | apply v_nil | apply v_skip | apply v_block | (apply v_pure; (case hop => first | (apply p_move <;> rfl) | (apply p_ne <;> rfl) | (apply p_assign <;> rfl) | (apply p_lenSlice <;> rfl) | fail); (case hd => rfl)) | (apply v_cond; (case hc => rfl); all_goals (intro h; (try simp only [reduceCtorEq, dec_true, dec_false, decide_eq_true_eq, decide_eq_false_iff_not, Bool.not_eq_true', Bool.not_eq_false', Option.isNone_iff_eq_none, beq_true, beq_false, beq_iff_eq, beq_eq_false_iff_ne, ne_eq, decide_eq_decide, Bool.not_eq_true, Bool.not_eq_false, Decidable.not_not] at h); first | skip)) | fail)
  · refine v_ret [] (outsA1 rfl rfl) (by repeat (first | exact List.Sublist.refl _ | fail)) ?_
    refine ⟨?_, rfl⟩
    rw [decide_eq_false]
    intro e
    subst e
    omega
  have hab : a.length = b.length := by omega
  refine v_loop [5, 0, 1] (fun us G' μ' => G' = G ∧ μ' = [] ∧ ∃ k, k ≤ a.length ∧ us = [Value.int .i64 (k : Nat), .slice A a.length c, .slice A' b.length c'] ∧ ∀ i (h : i < a.length) (h' : i < b.length), i < k → a[i] = b[i]) (fun us => a.length - (headI us).toNat) rfl ⟨rfl, rfl, 0, by omega, rfl, by omega⟩ ?_
  rintro us G' μ' ⟨rfl, rfl, k, hk, rfl, hno⟩
  repeat' (first | apply v_seq | apply v_region | apply v_nil | apply v_skip | apply v_block | (apply v_exit; (case hp => rfl)) | (apply v_pure; (case hop => first | (apply p_move <;> rfl) | (apply p_lt <;> rfl) | (apply p_assign <;> rfl) | (apply p_lenSlice <;> rfl) | fail); (case hd => rfl)) | (apply v_cond; (case hc => rfl); all_goals (intro h; (try simp only [reduceCtorEq, dec_true, dec_false, decide_eq_true_eq, decide_eq_false_iff_not, Bool.not_eq_true', Bool.not_eq_false', Option.isNone_iff_eq_none, beq_true, beq_false, beq_iff_eq, beq_eq_false_iff_ne, ne_eq, decide_eq_decide, Bool.not_eq_true, Bool.not_eq_false, Decidable.not_not] at h); first | skip)) | fail)
  · have hlt : k < a.length := by omega
    refine d_start [] (by kernel_rfl) (by kernel_rfl) (by intro e he; first | exact he | fail) ?_
    all_goals (first | (apply d_take 0; (case hi => rfl); (case hop => first | (apply PureOp.read; apply p_move <;> rfl)); (case hf => kernel_rfl); (case hr => kernel_rfl); (case hd => rfl)) | fail)
    all_goals (first | (apply d_take 1; (case hi => rfl); (case hop => first | (apply PureOp.read; apply p_move <;> rfl)); (case hf => kernel_rfl); (case hr => kernel_rfl); (case hd => rfl)) | fail)
    all_goals (first | (apply d_take 2; (case hi => rfl); (case hop => first | (apply PureOp.read; apply p_indexAddrS; (case hx => rfl); (case hi => rfl); (case h0 => omega); (case h => omega); (case hA => first | (apply_assumption; omega)))); (case hf => kernel_rfl); (case hr => kernel_rfl); (case hd => rfl)) | fail)
    all_goals (first | (apply d_take 3; (case hi => rfl); (case hop => first | ((apply r_loadN; rfl; exact CellsAt.frozen (hcp _ (by omega)); rfl)) | fail); (case hf => kernel_rfl); (case hr => kernel_rfl); (case hd => rfl)) | fail)
    all_goals (first | (apply d_take 4; (case hi => rfl); (case hop => first | (apply PureOp.read; apply p_move <;> rfl)); (case hf => kernel_rfl); (case hr => kernel_rfl); (case hd => rfl)) | fail)
    all_goals (first | (apply d_take 5; (case hi => rfl); (case hop => first | (apply PureOp.read; apply p_move <;> rfl)); (case hf => kernel_rfl); (case hr => kernel_rfl); (case hd => rfl)) | fail)
    all_goals (first | (apply d_take 6; (case hi => rfl); (case hop => first | (apply PureOp.read; apply p_indexAddrS; (case hx => rfl); (case hi => rfl); (case h0 => omega); (case h => omega); (case hA => first | (apply_assumption; omega)))); (case hf => kernel_rfl); (case hr => kernel_rfl); (case hd => rfl)) | fail)
    all_goals (first | (apply d_take 7; (case hi => rfl); (case hop => first | ((apply r_loadN; rfl; exact CellsAt.frozen (hcp' _ (by omega)); rfl)) | fail); (case hf => kernel_rfl); (case hr => kernel_rfl); (case hd => rfl)) | fail)
    all_goals (first | (apply d_take 8; (case hi => rfl); (case hop => first | ((apply PureOp.read; apply neEnt (x := a[k]'(by omega)) (y := b[k]'(by omega)); (case hx => rfl); (case hy => rfl))) | fail); (case hf => kernel_rfl); (case hr => kernel_rfl); (case hd => rfl)) | fail)
    all_goals (apply d_done; (case hr => kernel_rfl))
    repeat' (first | apply v_seq | apply v_region | apply v_nil | apply v_skip | apply v_blk | (apply v_pure; (case hop => first | (apply p_move <;> rfl) | (apply p_assign <;> rfl) | (apply p_add; (case hx => rfl); (case hy => rfl); (case h => omega)) | fail); (case hd => rfl)) | (apply v_cond; (case hc => rfl); all_goals (intro h; (try simp only [reduceCtorEq, dec_true, dec_false, decide_eq_true_eq, decide_eq_false_iff_not, Bool.not_eq_true', Bool.not_eq_false', Option.isNone_iff_eq_none, beq_true, beq_false, beq_iff_eq, beq_eq_false_iff_ne, ne_eq, decide_eq_decide, Bool.not_eq_true, Bool.not_eq_false, Decidable.not_not] at h); first | skip)) | fail)
    · refine v_ret [] (outsA1 rfl rfl) (by repeat (first | exact List.Sublist.refl _ | fail)) ?_
      refine ⟨?_, rfl⟩
      rw [decide_eq_false]
      intro e
      subst e
      contradiction
    · refine v_again rfl ⟨rfl, rfl, k + 1, by omega, rfl, fun i h h' hi => ?_⟩ (by simp [headI]; omega)
      by_cases hik : i = k
      · subst hik; assumption
      · exact hno i h h' (by omega)
  · refine v_ret [] (outsA1 rfl rfl) (by repeat (first | exact List.Sublist.refl _ | fail)) ?_
    refine ⟨?_, rfl⟩
    rw [decide_eq_true]
    exact List.ext_getElem hab fun i h h' => hno i h h' (by omega)
/-! ### What is found -/
theorem placeN_at {l : List Ent} (hr : RiseL l) {i : Nat} (hi : i < l.length) : placeN l l[i].index = i := by
  refine placeN_eq (by omega) (fun m h hm => hr m i hi hm) (fun m h hm => ?_)
  by_cases he : m = i
  · subst he; omega
  · have := hr i m h (by omega)
    omega
theorem hitB_at {l : List Ent} (hr : RiseL l) {i : Nat} (hi : i < l.length) : hitB l l[i].index = true := by
  unfold hitB
  simp only [placeN_at hr hi]
  rw [dif_pos hi]
  simp
theorem hitB_index {l : List Ent} {n : Int} (h : hitB l n = true) : (l[placeN l n]'(hitB_lt h)).index = n := by
  have hl := hitB_lt h
  unfold hitB at h
  rw [dif_pos hl] at h
  exact of_decide_eq_true h
theorem refEntFind_s {G : GH} {l : List Ent} {sv : Value} (n : Int) (hs : Es G sv l) (hr : RiseL l) : Con Tryd.prog 25 #[sv, .int .i64 n] G [] (Just (.int .i64 (if hitB l n = true then (placeN l n : Nat) else -1)) G) := by
  obtain ⟨A, c, rfl, hlc, hcm, hsome, hcp, hcb, hcc, hok⟩ := esOpen hs
  simp only [maxLen] at hcm
  apply Con.just
  refine v_enter Tryd.func25 rfl Tryd.ntmps25 rfl (fun B => ?_)
  repeat' (first | apply v_seq | apply v_region | apply v_nil | apply v_block | (apply v_pure; (case hop => first | (apply p_assign <;> rfl) | fail); (case hd => rfl)) | fail)
  refine v_loop [5, 0, 1] (fun us G' μ' => G' = G ∧ μ' = [] ∧ ∃ k, k ≤ l.length ∧ us = [Value.int .i64 (k : Nat), .slice A l.length c, .int .i64 n] ∧ ∀ i (h : i < l.length), i < k → l[i].index ≠ n) (fun us => l.length - (headI us).toNat) rfl ⟨rfl, rfl, 0, by omega, rfl, by omega⟩ ?_
  rintro us G' μ' ⟨rfl, rfl, k, hk, rfl, hno⟩
  have e1 : ((k : Nat) : Int).toNat = k := by omega
  repeat' (first | apply v_seq | apply v_region | apply v_nil | apply v_skip | apply v_block | apply v_blk | (apply v_exit; (case hp => rfl)) | (apply v_pure; (case hop => first | (apply p_move <;> rfl) | (apply p_eq <;> rfl) | (apply p_lt <;> rfl) | (apply p_assign <;> rfl) | (apply p_lenSlice <;> rfl) | (apply p_fieldAddr <;> rfl) | (apply p_add; (case hx => rfl); (case hy => rfl); (case h => omega)) | (apply p_indexAddrS; (case hx => rfl); (case hi => rfl); (case h0 => omega); (case h => omega); (case hA => first | (apply_assumption; omega))) | fail); (case hd => rfl)) | (apply v_cond; (case hc => rfl); all_goals (intro h; (try simp only [reduceCtorEq, dec_true, dec_false, decide_eq_true_eq, decide_eq_false_iff_not, Bool.not_eq_true', Bool.not_eq_false', Option.isNone_iff_eq_none, beq_true, beq_false, beq_iff_eq, beq_eq_false_iff_ne, ne_eq, decide_eq_decide, Bool.not_eq_true, Bool.not_eq_false, Decidable.not_not] at h); first | skip)) | (apply v_read; (case hop => (apply r_load1; rfl; exact Cell.frozen (esCell hcp _ (by omega)))); (case hd => rfl)) | fail)
  · refine v_ret [] (outsA1 rfl rfl) (by repeat (first | exact List.Sublist.refl _ | fail)) ?_
    refine ⟨?_, rfl⟩
    have hlt : k < l.length := by omega
    have he : l[k].index = n := by assumption
    have h1 := hitB_at hr hlt
    have h2 := placeN_at hr hlt
    rw [he] at h1 h2
    rw [if_pos h1, h2]
  · refine v_again rfl ⟨rfl, rfl, k + 1, by omega, rfl, fun i h hi => ?_⟩ (by simp [headI]; omega)
    by_cases hik : i = k
    · subst hik; assumption
    · exact hno i h (by omega)
  · refine v_ret [] (outsA1 rfl rfl) (by repeat (first | exact List.Sublist.refl _ | fail)) ?_
    refine ⟨?_, rfl⟩
    rw [if_neg]
    intro h
    exact hno _ (hitB_lt h) (by have := hitB_lt h; omega) (hitB_index h)
/-- What Find gives back. -/
def zeroE : Ent := ⟨0, 0, 0, zeroCm⟩
noncomputable def findE (l : List Ent) (n : Int) : Ent := if h : hitB l n = true then l[placeN l n]'(hitB_lt h) else zeroE
theorem find_s {G : GH} {l : List Ent} {sv : Value} (n : Int) (hs : Es G sv l) (hr : RiseL l) : Con Tryd.prog 144 #[sv, .int .i64 n] G [] (Just (.tuple [.agg (findE l n).cells.toArray, .bool (hitB l n)].toArray) G) := by
  have qp := place_s n hs hr
  obtain ⟨A, c, rfl, hlc, hcm, hsome, hcp, hcb, hcc, hok⟩ := esOpen hs
  simp only [maxLen] at hcm
  apply Con.just
  refine v_enter Tryd.func144 rfl Tryd.ntmps144 rfl (fun B => ?_)
  cases hh : hitB l n
  · rw [hh] at qp
    repeat' (first | apply v_seq | apply v_region | apply v_nil | (apply v_pure; (case hop => first | (apply p_move <;> rfl) | (apply p_assign <;> rfl) | (apply p_not <;> rfl) | (apply p_extract0 <;> rfl) | (apply p_extract1 <;> rfl) | (apply p_build; (case hz => rfl); (case hv => (simp only [List.map_cons, List.map_nil]; repeat (first | with_reducible exact evs_nil | fail))); (case hb => (apply bldL; repeat (first | exact bld_nil | fail))))); (case hd => rfl)) | (apply v_condT; (case hc => rfl)) | (apply v_callJ (hs := qp); (case ha => rfl); (case hd => rfl)) | (apply v_alloc; (case hz => rfl); (case hd => rfl); intro b) | (apply v_store; (case hp => rfl); (case hx => rfl); (case hc => rfl); (case hsz => rfl); (case h1 => rfl); (case hb => (repeat (first | exact List.Mem.head _ | fail))); (case hfit => first | exact Nat.le_of_ble_eq_true rfl | fail); (case hov => (first | ((repeat (first | with_reducible exact ov_nil | apply ov_cons | fail)); done) | fail)); (case hu => repeat (first | exact Upd.here _ _ | fail))) | fail)
    refine v_retM [] (outsM_cell_tmp (vs := zeroE.cells) (e := 50) rfl rfl rfl ?_ ?_) (by repeat (first | exact List.nil_sublist _ | fail)) ?_
    · exact List.Mem.head _
    · rfl
    · exact ⟨by rw [findE, dif_neg (by rw [hh]; decide)], rfl⟩
  · rw [hh] at qp
    have hlt := hitB_lt hh
    repeat' (first | apply v_seq | apply v_region | apply v_nil | apply v_skip | (apply v_pure; (case hop => first | (apply p_move <;> rfl) | (apply p_assign <;> rfl) | (apply p_not <;> rfl) | (apply p_extract0 <;> rfl) | (apply p_extract1 <;> rfl) | (apply p_indexAddrS; (case hx => rfl); (case hi => rfl); (case h0 => omega); (case h => omega); (case hA => first | (apply_assumption; omega))) | fail); (case hd => rfl)) | (apply v_condF; (case hc => rfl)) | (apply v_callJ (hs := qp); (case ha => rfl); (case hd => rfl)) | (apply v_read; (case hop => (apply r_loadN; rfl; exact CellsAt.frozen (hcp _ (by omega)); rfl)); (case hd => rfl)) | (apply v_alloc; (case hz => rfl); (case hd => rfl); intro b) | (apply v_store; (case hp => rfl); (case hx => rfl); (case hc => rfl); (case hsz => rfl); (case h1 => rfl); (case hb => (repeat (first | exact List.Mem.head _ | fail))); (case hfit => first | exact Nat.le_of_ble_eq_true rfl | fail); (case hov => (first | ((repeat (first | with_reducible exact ov_nil | apply ov_cons | fail)); done) | fail)); (case hu => repeat (first | exact Upd.here _ _ | fail))) | fail)
    refine v_retM [] (outsM_cell_tmp (vs := (l[placeN l n]'hlt).cells) (e := 50) rfl rfl rfl ?_ ?_) (by repeat (first | exact List.nil_sublist _ | fail)) ?_
    · exact List.Mem.head _
    · rfl
    · exact ⟨by rw [findE, dif_pos hh], rfl⟩
/-- Large says no only of forty entries at most. -/
def LargeB (n : Nat) (G : GH) (r : Value) (G' : GH) (μ' : OH) : Prop := G' = G ∧ μ' = [] ∧ ∃ b, r = .bool b ∧ (b = false → n ≤ 40)
theorem entLargeB_s {G : GH} {l : List Ent} {sv : Value} (hs : Es G sv l) : Con Tryd.prog 35 #[sv] G [] (LargeB l.length G) := by
  obtain ⟨A, c, rfl, hlc, hcm, hsome, hcp, hcb, hcc, hok⟩ := esOpen hs
  simp only [maxLen] at hcm
  have hz := fun i (h : i < l.length) => (hok i h).2.2.2
  simp only [Cm.ok, maxLen] at hz
  refine v_enter Tryd.func35 rfl Tryd.ntmps35 rfl (fun B => ?_)
  repeat' (first | apply v_seq | apply v_region | apply v_nil | apply v_block | (apply v_pure; (case hop => first | (apply p_assign <;> rfl) | fail); (case hd => rfl)) | fail)
  refine v_loop [3, 0] (fun us G' μ' => G' = G ∧ μ' = [] ∧ ∃ k, k ≤ l.length ∧ us = [Value.int .i64 (k : Nat), .slice A l.length c]) (fun us => l.length - (headI us).toNat) rfl ⟨rfl, rfl, 0, by omega, rfl⟩ ?_
  rintro us G' μ' ⟨rfl, rfl, k, hk, rfl⟩
  have e1 : ((k : Nat) : Int).toNat = k := by omega
  repeat' (first | apply v_seq | apply v_region | apply v_nil | apply v_skip | apply v_block | apply v_blk | (apply v_exit; (case hp => rfl)) | (apply v_take; (case hg => rfl)) | (apply v_pass; (case hg => rfl); (case hn => rfl); (case hd => rfl)) | (apply v_pure; (case hop => first | (apply p_move <;> rfl) | (apply p_lt <;> rfl) | (apply p_gt <;> rfl) | (apply p_assign <;> rfl) | (apply p_pickT <;> rfl) | (apply p_pickF <;> rfl) | (apply p_lenSlice <;> rfl) | (apply p_fieldAddrB <;> rfl) | (apply p_fieldAddr <;> rfl) | (apply p_add; (case hx => rfl); (case hy => rfl); (case h => omega)) | (apply p_indexAddrS; (case hx => rfl); (case hi => rfl); (case h0 => omega); (case h => omega); (case hA => first | (apply_assumption; omega))) | (apply p_lenString <;> rfl) | fail); (case hd => rfl)) | (apply v_condT; (case hc => rfl)) | (apply v_condF; (case hc => rfl)) | (apply v_cond; (case hc => rfl); all_goals (intro h; (try simp only [reduceCtorEq, dec_true, dec_false, decide_eq_true_eq, decide_eq_false_iff_not, Bool.not_eq_true', Bool.not_eq_false', Option.isNone_iff_eq_none, beq_true, beq_false, beq_iff_eq, beq_eq_false_iff_ne, ne_eq, decide_eq_decide, Bool.not_eq_true, Bool.not_eq_false, Decidable.not_not] at h); first | skip)) | (apply v_guardB; (case h1 => rfl); (case h2 => rfl); all_goals (intro h; (try simp only [reduceCtorEq, dec_true, dec_false, decide_eq_true_eq, decide_eq_false_iff_not, Bool.not_eq_true', Bool.not_eq_false', Option.isNone_iff_eq_none, beq_true, beq_false, beq_iff_eq, beq_eq_false_iff_ne, ne_eq, decide_eq_decide, Bool.not_eq_true, Bool.not_eq_false, Decidable.not_not] at h); first | skip)) | (apply v_read; (case hop => first | (apply r_load1; rfl; exact Cell.frozen (cmCell hcc _ (by omega) 3 _ rfl)) | (apply r_load1; rfl; exact Cell.frozen (cmCell hcc _ (by omega) 4 _ rfl)) | (apply r_load1; rfl; exact Cell.frozen (cmCell hcc _ (by omega) 5 _ rfl))); (case hd => rfl)) | fail)
  all_goals first
    | (refine v_ret [] (outsA1 rfl rfl) (by repeat (first | exact List.Sublist.refl _ | fail)) ?_
       refine ⟨rfl, rfl, _, rfl, fun h => ?_⟩
       first | (cases h; done) | (have := dec_false.1 h; omega))
    | (refine v_again rfl ⟨rfl, rfl, k + 1, by omega, rfl⟩ (by simp [headI]; omega))
end Go.Proofs.YtnoiahlpmgbhfaaDoor
/-
  recone (layer 16), the sixth part: the example; ReconeChecks.
-/
set_option linter.unusedSimpArgs false
set_option linter.unusedVariables false
namespace Go.Proofs.YtnoiahlpmgbhfaaDoor
open Go.Vx Go.ChangeShapes Go.WideShapes Go.ChangeAt Go.RowKit
def exRc : Rc := ⟨1, 2, 3, 0, zeroCm, []⟩
theorem exRc_older : olderI exRc = 0 := by
  have h1 : recI 1 2 3 0 zeroCm 0 = 0 := by
    unfold recI ranP mayP
    rw [if_neg (by omega), if_neg (by simp), if_neg (by omega), if_neg (by simp), if_neg]
    unfold othP
    simp
  have h2 : recI exRc.kind exRc.round exRc.node exRc.index exRc.cmd exRc.image.length = 0 := h1
  rw [olderI, h2]
  simp [exRc]
theorem zeroCm_ok : zeroCm.ok := by
  refine ⟨?_, ?_, ?_, ?_, ?_, ?_, ?_⟩ <;> decide
theorem exVb : [] ++ vbytes 1 ++ vbytes 2 ++ vbytes 3 ++ vbytes 0 = [1, 2, 3, 0] := by decide
theorem encodeEx_s {G : GH} (hT : TabsG G) : Con Tryd.prog 50 #[.agg (recL 1 2 3 0 zeroCm (.slice none 0 0)).toArray] G [] (fun r G' μ' => μ' = [] ∧ ∃ v, r = .tuple [v, .int .i64 0].toArray ∧ Sl G' 1 (IntR .u8) v [1, 2, 3, 0]) := by
  have qo := older_s hT (x := exRc) ⟨_, rfl, Sl.nil⟩ zeroCm_ok
  rw [exRc_older] at qo
  have qf := fun G' => rfields_s G' 1
  refine v_enter Tryd.func50 rfl Tryd.ntmps50 rfl (fun B => ?_)
  repeat' (first | apply v_seq | apply v_region | apply v_nil | apply v_skip | (apply v_pure; (case hop => first | (apply p_move <;> rfl) | (apply p_nes <;> rfl) | (apply p_assign <;> rfl) | (apply p_fieldAddrB <;> rfl) | (apply p_build; (case hz => rfl); (case hv => (simp only [List.map_cons, List.map_nil]; repeat (first | with_reducible exact evs_nil | fail))); (case hb => (apply bldL; repeat (first | exact bld_nil | fail)))) | fail); (case hd => rfl)) | (apply v_condF; (case hc => rfl)) | (apply v_box (zs := recL 1 2 3 0 zeroCm (.slice none 0 0)); (case hx => rfl); (case hz => rfl); (case hd => rfl); intro rb) | (apply v_box (zs := [.slice none 0 0]); (case hx => rfl); (case hz => rfl); (case hd => rfl); intro wb) | (apply v_callJ (hs := qo); (case ha => rfl); (case hd => rfl)) | (apply v_read; (case hop => first | (apply r_loadNo; (case hx => rfl); (case h => (repeat (first | exact List.Mem.head _ | fail))); (case hd => (repeat (first | with_reducible exact dt_nil | apply dt_here | fail))); (case hn => rfl)) | (apply r_load1; rfl; (apply Cell.own; (case h => (repeat (first | exact List.Mem.head _ | apply List.Mem.tail | fail))); rfl)) | fail); (case hd => rfl)) | fail)
  refine v_call (μ1 := [(wb, _)]) (μ2 := _) rfl (wnumber_s wb 1 Sl.nil (by simp) (by omega)) (List.Perm.refl _) rfl ?_
  rintro r1 G1 _ hle1 ⟨v1, rfl, h1⟩
  repeat' (first | apply v_seq | apply v_region | apply v_nil | (apply v_pure; (case hop => first | (apply p_move <;> rfl) | (apply p_fieldAddrB <;> rfl) | fail); (case hd => rfl)) | (apply v_read; (case hop => first | (apply r_load1; rfl; (apply Cell.own; (case h => (repeat (first | exact List.Mem.head _ | apply List.Mem.tail | fail))); rfl)) | fail); (case hd => rfl)) | fail)
  refine v_call (μ1 := [(wb, _)]) (μ2 := _) rfl (wnumber_s wb 2 h1 (by decide) (by omega)) (List.Perm.refl _) rfl ?_
  rintro r2 G2 _ hle2 ⟨v2, rfl, h2⟩
  repeat' (first | apply v_seq | apply v_region | apply v_nil | (apply v_pure; (case hop => first | (apply p_move <;> rfl) | (apply p_fieldAddrB <;> rfl) | fail); (case hd => rfl)) | (apply v_read; (case hop => first | (apply r_load1; rfl; (apply Cell.own; (case h => (repeat (first | exact List.Mem.head _ | apply List.Mem.tail | fail))); rfl)) | fail); (case hd => rfl)) | fail)
  refine v_call (μ1 := [(wb, _)]) (μ2 := _) rfl (wnumber_s wb 3 h2 (by decide) (by omega)) (List.Perm.refl _) rfl ?_
  rintro r3 G3 _ hle3 ⟨v3, rfl, h3⟩
  repeat' (first | apply v_seq | apply v_region | apply v_nil | (apply v_pure; (case hop => first | (apply p_move <;> rfl) | (apply p_fieldAddrB <;> rfl) | fail); (case hd => rfl)) | (apply v_read; (case hop => first | (apply r_load1; rfl; (apply Cell.own; (case h => (repeat (first | exact List.Mem.head _ | apply List.Mem.tail | fail))); rfl)) | fail); (case hd => rfl)) | fail)
  refine v_call (μ1 := [(wb, _)]) (μ2 := _) rfl (wnumber_s wb 0 h3 (by decide) (by omega)) (List.Perm.refl _) rfl ?_
  rintro r4 G4 _ hle4 ⟨v4, rfl, h4⟩
  repeat' (first | apply v_seq | apply v_region | apply v_nil | apply v_skip | apply v_block | apply v_blk | (apply v_pure; (case hop => first | (apply p_move <;> rfl) | (apply p_assign <;> rfl) | (apply p_fieldAddrB <;> rfl) | (apply p_extract0 <;> rfl) | (apply p_extract1 <;> rfl) | fail); (case hd => rfl)) | (apply v_condF; (case hc => rfl)) | (apply v_callJ (hs := qf _); (case ha => rfl); (case hd => rfl)) | (apply v_read; (case hop => first | (apply r_load1; rfl; (apply Cell.own; (case h => (repeat (first | exact List.Mem.head _ | apply List.Mem.tail | fail))); rfl)) | fail); (case hd => rfl)) | (apply v_alloc; (case hz => rfl); (case hd => rfl); intro b) | (apply v_store; (case hp => rfl); (case hx => rfl); (case hc => rfl); (case hsz => rfl); (case h1 => rfl); (case hb => (repeat (first | exact List.Mem.head _ | fail))); (case hfit => first | exact Nat.le_of_ble_eq_true rfl | fail); (case hov => (first | ((repeat (first | with_reducible exact ov_nil | apply ov_cons | fail)); done) | fail)); (case hu => repeat (first | exact Upd.here _ _ | fail))) | fail)
  rw [exVb] at h4
  refine v_call (μ2 := _) rfl (wbytes_s wb h4 (by decide)) (PickA.perm (by repeat (first | exact PickA.here _ | apply PickA.cons | fail))) rfl ?_
  rintro r5 G5 _ hle5 ⟨rfl, h5⟩
  repeat' (first | apply v_nil | (apply v_pure; (case hop => first | (apply p_assign <;> rfl) | fail); (case hd => rfl)) | fail)
  refine v_ret [] (outsA2 rfl rfl rfl) (by repeat (first | exact List.nil_sublist _ | fail)) ?_
  exact ⟨rfl, _, rfl, h5⟩
theorem awake16_s {G : GH} (hT : TabsG G) : Con Tryd.prog 11 #[] G [] (Just (.bool true) G) := by
  apply Con.just
  refine v_enter Tryd.func11 rfl Tryd.ntmps11 rfl (fun B => ?_)
  repeat' (first | apply v_seq | apply v_region | apply v_nil | (apply v_pure; (case hop => first | (apply p_assign <;> rfl) | (apply p_build; (case hz => rfl); (case hv => (simp only [List.map_cons, List.map_nil]; repeat (first | with_reducible exact evs_nil | (apply evs_cons; (case h1 => rfl))))); (case hb => (apply bldL; repeat (first | exact bld_nil | (apply bld_cons; (case hpf => rfl); (case hc => rfl); (case hs => rfl); (case hl => rfl); (case ho => (first | ((repeat (first | with_reducible exact ov_nil | apply ov_cons | fail)); done) | fail))))))) | fail); (case hd => rfl)) | fail)
  refine v_call (μ1 := []) (μ2 := _) rfl (encodeEx_s hT) (List.Perm.refl _) rfl ?_
  rintro r G' μ1 hle ⟨rfl, v, rfl, hv⟩
  obtain ⟨A, c, rfl, hlc, hcm, hsome, hel, _⟩ := hv.openInt
  simp only [maxLen] at hcm
  have e0 : GH.cell? G' ((adr A).add ((0 : Int).toNat * 1)) = some (.int .u8 1) := hel 0 (by decide)
  have e2 : GH.cell? G' ((adr A).add ((2 : Int).toNat * 1)) = some (.int .u8 3) := hel 2 (by decide)
  have hA := hsome (by decide)
  have hl4 : ([1, 2, 3, 0] : List Int).length = 4 := rfl
  repeat' (first | apply v_seq | apply v_region | apply v_nil | (apply v_take; (case hg => rfl)) | (apply v_pure; (case hop => first | (apply p_move <;> rfl) | (apply p_eqs <;> rfl) | (apply p_assign <;> rfl) | (apply p_pickT <;> rfl) | (apply p_lenSlice <;> rfl) | (apply p_extract0 <;> rfl) | (apply p_extract1 <;> rfl) | (apply p_indexAddrS; (case hx => rfl); (case hi => rfl); (case h0 => omega); (case h => omega); (case hA => first | assumption | fail)) | fail); (case hd => rfl)) | (apply v_read; (case hop => first | (apply r_load1; rfl; exact Cell.frozen e0) | (apply r_load1; rfl; exact Cell.frozen e2)); (case hd => rfl)) | fail)
  refine v_ret [] (outsA1 rfl rfl) (by repeat (first | exact List.Sublist.refl _ | fail)) ?_
  exact ⟨rfl, rfl⟩
end Go.Proofs.YtnoiahlpmgbhfaaDoor
/-
  recone (layer 16), the eighth part: what a version has, by the reference.
-/
set_option linter.unusedSimpArgs false
set_option linter.unusedVariables false
namespace Go.Proofs.YtnoiahlpmgbhfaaDoor
open Go.Vx Go.ChangeShapes Go.WideShapes Go.ChangeAt Go.RowKit
theorem refHas16_s {G : GH} {x : Rc} {xv : Value} (hx : RcV G x xv) (hc : x.cmd.ok) : Con Tryd.prog 14 #[.int .i64 1, xv] G [] (Just (.int .i64 (olderI x)) G) := by
  obtain ⟨k, r, n, i, c, im⟩ := x
  obtain ⟨iv, rfl, hi⟩ := hx
  obtain ⟨A, cp, rfl, hlc, hcm, _⟩ := hi.openInt
  simp only [maxLen] at hcm
  simp only at hc hlc hi
  have q := refRecCheck_s (G := G) k r n i c hc A im.length cp (by omega)
  have qf := hasCmd_s G k
  have qv := refVHas_s G 1 c.kind
  have ho : olderI ⟨k, r, n, i, c, im⟩ = if recI k r n i c im.length ≠ 0 then recI k r n i c im.length else if (k = 2 ∨ k = 3) ∧ ¬ HasV 1 c.kind then 8 else 0 := rfl
  rw [ho]
  generalize recI k r n i c im.length = I at *
  apply Con.just
  refine v_enter Tryd.func14 rfl Tryd.ntmps14 rfl (fun B => ?_)
  repeat' (first | apply v_seq | apply v_region | apply v_nil | apply v_skip | apply v_block | apply v_blk | (apply v_exit; (case hp => rfl)) | (apply v_take; (case hg => rfl)) | (apply v_pass; (case hg => rfl); (case hn => rfl); (case hd => rfl)) | (apply v_passN; (case hg => rfl); (case hn => rfl); (case hd => rfl)) | (apply v_pure; (case hop => first | (apply p_move <;> rfl) | (apply p_nes <;> rfl) | (apply p_neBs <;> rfl) | (apply p_ne <;> rfl) | (apply p_assign <;> rfl) | (apply p_pickT <;> rfl) | (apply p_pickF <;> rfl) | (apply p_not <;> rfl) | (apply p_fieldAddrB <;> rfl) | (apply p_fieldAddr <;> rfl) | (apply p_neB <;> rfl) | (apply p_neNil <;> rfl) | (apply p_pickAnd <;> rfl) | (apply p_pickOr <;> rfl) | (apply p_neS <;> rfl) | (apply p_neNilSlice <;> rfl)); (case hd => rfl)) | (apply v_condT; (case hc => rfl)) | (apply v_condF; (case hc => rfl)) | (apply v_cond; (case hc => rfl); all_goals (intro h; (try simp only [reduceCtorEq, dec_true, dec_false, decide_eq_true_eq, decide_eq_false_iff_not, Bool.not_eq_true', Bool.not_eq_false', Option.isNone_iff_eq_none, beq_true, beq_false, beq_iff_eq, beq_eq_false_iff_ne, ne_eq, decide_eq_decide, Bool.not_eq_true, Bool.not_eq_false, Decidable.not_not] at h); first | done | (exfalso; omega) | (exfalso; exact h (by with_reducible assumption)) | (exfalso; revert h; rw [imp_false]; with_reducible assumption) | skip)) | (apply v_guardB; (case h1 => rfl); (case h2 => rfl); all_goals (intro h; (try simp only [reduceCtorEq, dec_true, dec_false, decide_eq_true_eq, decide_eq_false_iff_not, Bool.not_eq_true', Bool.not_eq_false', Option.isNone_iff_eq_none, beq_true, beq_false, beq_iff_eq, beq_eq_false_iff_ne, ne_eq, decide_eq_decide, Bool.not_eq_true, Bool.not_eq_false, Decidable.not_not] at h); first | done | (exfalso; omega) | (exfalso; exact h (by with_reducible assumption)) | (exfalso; revert h; rw [imp_false]; with_reducible assumption) | skip)) | (apply v_box (zs := recL k r n i c (.slice A im.length cp)); (case hx => rfl); (case hz => rfl); (case hd => rfl); intro b1) | (apply v_callJ (hs := q); (case ha => rfl); (case hd => rfl)) | (apply v_callJ (hs := qf); (case ha => rfl); (case hd => rfl)) | (apply v_callJ (hs := qv); (case ha => rfl); (case hd => rfl)) | (apply v_read; (case hop => first | (apply r_loadNo; (case hx => rfl); (case h => (repeat (first | exact List.Mem.head _ | apply List.Mem.tail | apply List.mem_append_right))); (case hd => (repeat (first | with_reducible exact dt_nil | apply dt_here | apply dt_drop))); (case hn => rfl)) | (apply r_load1; rfl; (apply Cell.own; (case h => (repeat (first | exact List.Mem.head _ | apply List.Mem.tail | apply List.mem_append_right))); rfl)) | (apply r_loadN; rfl; (apply CellsAt.own; (case h => (repeat (first | exact List.Mem.head _ | apply List.Mem.tail | apply List.mem_append_right)))); rfl)); (case hd => rfl)) | (apply v_box; (case hx => rfl); (case hz => rfl); (case hd => rfl); intro b) | fail)
  all_goals
    (refine v_ret [] (outsA1 rfl rfl) (by repeat (first | exact List.Sublist.refl _ | exact List.nil_sublist _ | apply List.Sublist.cons_cons | apply List.Sublist.cons | exact List.sublist_append_left _ _ | apply List.sublist_append_of_sublist_right)) ?_
     refine ⟨?_, rfl⟩
     clear q qf qv
     simp [*])
end Go.Proofs.YtnoiahlpmgbhfaaDoor
/-
  rectwo (layer 17), the first part: Encode.
-/
set_option linter.unusedSimpArgs false
set_option linter.unusedVariables false
namespace Go.Proofs.YtnoiahlpmgbhfaaDoor
open Go.Vx Go.ChangeShapes Go.WideShapes Go.ChangeAt Go.RowKit
/-- A writer, the box of its pointer, a record. -/
abbrev twoW (wb pb xb : Nat) (sv : Value) (k r n i : Int) (c : Cm) (iv : Value) : OH := [(wb, .cells [sv].toArray 66 (0, 0)), (pb, .cells [.pointer (some ⟨wb, 0, none⟩)].toArray 64 (0, 0)), (xb, .cells (recL k r n i c iv).toArray 29 (0, 0))]
/-- A function that puts bytes behind a writer's. -/
def PutsW (G0 : GH) (f : FuncId) (wb pb xb : Nat) (k r n i : Int) (c : Cm) (iv : Value) (add : List Int) : Prop := ∀ (G : GH) (sv : Value) (l : List Int), GH.le G0 G → Sl G 1 (IntR .u8) sv l → l.length ≤ 50000 →
  Con Tryd.prog f #[.pointer (some ⟨pb, 0, none⟩), .pointer (some ⟨xb, 0, none⟩)] G (twoW wb pb xb sv k r n i c iv) (fun r' G' μ' => ∃ v', μ' = twoW wb pb xb v' k r n i c iv ∧ Sl G' 1 (IntR .u8) v' (l ++ add))
theorem enc1_s (G0 : GH) (wb pb xb : Nat) (k r n i : Int) (c : Cm) (iv : Value) (hr : r ≤ 9223372036854775807) (hn : n ≤ 9223372036854775807) : PutsW G0 110 wb pb xb k r n i c iv (vbytes r ++ vbytes n) := by
  intro G sv l hle hs hl
  refine v_enter Tryd.func110 rfl Tryd.ntmps110 rfl (fun B => ?_)
  repeat' (first | apply v_seq | apply v_region | (apply v_pure; (case hop => first | (apply p_fieldAddrB <;> rfl) | fail); (case hd => rfl)) | (apply v_read; (case hop => first | (apply r_load1; rfl; (apply Cell.own; (case h => (repeat (first | exact List.Mem.head _ | apply List.Mem.tail | fail))); rfl)) | fail); (case hd => rfl)) | fail)
  refine v_call (μ1 := [(wb, _)]) (μ2 := _) rfl (wnumber_s wb r hs (by omega) hr) (PickA.perm (by repeat (first | exact PickA.here _ | fail))) rfl ?_
  rintro r1 G1 _ hle1 ⟨v1, rfl, h1⟩
  repeat' (first | apply v_region | apply v_nil | (apply v_pure; (case hop => first | (apply p_fieldAddrB <;> rfl) | fail); (case hd => rfl)) | (apply v_read; (case hop => first | (apply r_load1; rfl; (apply Cell.own; (case h => (repeat (first | exact List.Mem.head _ | apply List.Mem.tail | fail))); rfl)) | fail); (case hd => rfl)) | fail)
  refine v_call (μ1 := [(wb, _)]) (μ2 := _) rfl (wnumber_s wb n h1 (by have := (vbytes_len r).1; simp; omega) hn) (PickA.perm (by repeat (first | exact PickA.here _ | fail))) rfl ?_
  rintro r2 G2 _ hle2 ⟨v2, rfl, h2⟩
  repeat' (first | apply v_nil | fail)
  refine v_end [(wb, _), (pb, _), (xb, _)] (outsA0 rfl) (by repeat (first | exact List.Sublist.refl _ | fail)) ?_
  exact ⟨v2, rfl, by rw [List.append_assoc] at h2; exact h2⟩
theorem enc2_s (G0 : GH) (wb pb xb : Nat) (k r n i : Int) (c : Cm) (iv : Value) (hi : i ≤ 9223372036854775807) : PutsW G0 111 wb pb xb k r n i c iv (vbytes i) := by
  intro G sv l hle hs hl
  refine v_enter Tryd.func111 rfl Tryd.ntmps111 rfl (fun B => ?_)
  repeat' (first | apply v_region | (apply v_pure; (case hop => first | (apply p_fieldAddrB <;> rfl) | fail); (case hd => rfl)) | (apply v_read; (case hop => first | (apply r_load1; rfl; (apply Cell.own; (case h => (repeat (first | exact List.Mem.head _ | apply List.Mem.tail | fail))); rfl)) | fail); (case hd => rfl)) | fail)
  refine v_call (μ1 := [(wb, _)]) (μ2 := _) rfl (wnumber_s wb i hs (by omega) hi) (PickA.perm (by repeat (first | exact PickA.here _ | fail))) rfl ?_
  rintro r1 G1 _ hle1 ⟨v1, rfl, h1⟩
  repeat' (first | apply v_nil | fail)
  refine v_end [(wb, _), (pb, _), (xb, _)] (outsA0 rfl) (by repeat (first | exact List.Sublist.refl _ | fail)) ?_
  exact ⟨v1, rfl, h1⟩
theorem enc3_s (G0 : GH) (wb pb xb : Nat) (k r n i : Int) (c : Cm) (iv : Value) (hc : c.ok) (hk : c.key.size ≤ 1000) (hv : c.val.size ≤ 1000) (ho : c.old.size ≤ 1000) : PutsW G0 112 wb pb xb k r n i c iv (vbytes c.kind ++ putW (wantB 2 c.kind) c 6) := by
  intro G sv l hle hs hl
  refine v_enter Tryd.func112 rfl Tryd.ntmps112 rfl (fun B => ?_)
  repeat' (first | apply v_region | (apply v_pure; (case hop => first | (apply p_fieldAddrB <;> rfl) | fail); (case hd => rfl)) | (apply v_read; (case hop => first | (apply r_loadNo; (case hx => rfl); (case h => (repeat (first | exact List.Mem.head _ | apply List.Mem.tail | fail))); (case hd => (repeat (first | with_reducible exact dt_nil | apply dt_here | fail))); (case hn => rfl)) | (apply r_load1; rfl; (apply Cell.own; (case h => (repeat (first | exact List.Mem.head _ | apply List.Mem.tail | fail))); rfl)) | fail); (case hd => rfl)) | fail)
  refine v_call (μ1 := [(wb, _)]) (μ2 := _) rfl (cputV_s 2 c hc hk hv ho wb hs (by omega)) (PickA.perm (by repeat (first | exact PickA.here _ | fail))) rfl ?_
  rintro r1 G1 _ hle1 ⟨v1, rfl, h1⟩
  repeat' (first | apply v_nil | fail)
  refine v_end [(wb, _), (pb, _), (xb, _)] (outsA0 rfl) (by repeat (first | exact List.Sublist.refl _ | fail)) ?_
  exact ⟨v1, rfl, by rw [List.append_assoc] at h1; exact h1⟩
theorem enc4_s {G0 : GH} (wb pb xb : Nat) (k r n i : Int) (c : Cm) {A : Option Addr} {cp : Nat} {im : List Int} (hi : Sl G0 1 (IntR .u8) (.slice A im.length cp) im) (hm : im.length ≤ 40000) : PutsW G0 113 wb pb xb k r n i c (.slice A im.length cp) (vbytes im.length ++ im) := by
  intro G sv l hle hs hl
  refine v_enter Tryd.func113 rfl Tryd.ntmps113 rfl (fun B => ?_)
  repeat' (first | apply v_region | (apply v_pure; (case hop => first | (apply p_fieldAddrB <;> rfl) | fail); (case hd => rfl)) | (apply v_read; (case hop => first | (apply r_load1; rfl; (apply Cell.own; (case h => (repeat (first | exact List.Mem.head _ | apply List.Mem.tail | fail))); rfl)) | fail); (case hd => rfl)) | fail)
  refine v_call (μ1 := [(wb, _)]) (μ2 := _) rfl (wraw_s wb hs (hi.mono hle) (by omega) (by omega)) (PickA.perm (by repeat (first | exact PickA.here _ | fail))) rfl ?_
  rintro r1 G1 _ hle1 ⟨v1, rfl, h1⟩
  repeat' (first | apply v_nil | fail)
  refine v_end [(wb, _), (pb, _), (xb, _)] (outsA0 rfl) (by repeat (first | exact List.Sublist.refl _ | fail)) ?_
  exact ⟨v1, rfl, by rw [List.append_assoc] at h1; exact h1⟩
theorem whenW_s {G0 : GH} {f : FuncId} [Callable Tryd.prog f] {wb pb xb : Nat} {k r n i : Int} {c : Cm} {iv : Value} {add : List Int} (hf : PutsW G0 f wb pb xb k r n i c iv add) (b : Bool) {G : GH} {sv : Value} {l : List Int} (hle : GH.le G0 G) (hs : Sl G 1 (IntR .u8) sv l) (hl : l.length ≤ 50000) :
    Con Tryd.prog 149 #[.bool b, .func (.func f) #[] #[.pointer (some ⟨pb, 0, none⟩), .pointer (some ⟨xb, 0, none⟩)]] G (twoW wb pb xb sv k r n i c iv) (fun r' G' μ' => ∃ v', μ' = twoW wb pb xb v' k r n i c iv ∧ Sl G' 1 (IntR .u8) v' (l ++ (if b then add else []))) := by
  have q := hf G sv l hle hs hl
  refine v_enter Tryd.func149 rfl Tryd.ntmps149 rfl (fun B => ?_)
  cases b
  · repeat' (first | apply v_seq | apply v_region | apply v_nil | apply v_skip | (apply v_pure; (case hop => first | (apply p_move <;> rfl)); (case hd => rfl)) | (apply v_condF; (case hc => rfl)) | fail)
    refine v_end [(wb, _), (pb, _), (xb, _)] (outsA0 rfl) (by repeat (first | exact List.Sublist.refl _ | fail)) ?_
    exact ⟨sv, rfl, by simpa using hs⟩
  · repeat' (first | apply v_seq | apply v_region | apply v_nil | (apply v_pure; (case hop => first | (apply p_move <;> rfl)); (case hd => rfl)) | (apply v_condT; (case hc => rfl)) | fail)
    refine v_callC (first := []) (captured := [.pointer (some ⟨pb, 0, none⟩), .pointer (some ⟨xb, 0, none⟩)]) (vs := []) rfl rfl q (List.Perm.refl _) rfl ?_
    rintro r1 G1 _ hle1 ⟨v1, rfl, h1⟩
    repeat' (first | apply v_nil | fail)
    refine v_end [(wb, _), (pb, _), (xb, _)] (outsA0 rfl) (by repeat (first | exact List.Sublist.refl _ | fail)) ?_
    exact ⟨v1, rfl, by simpa using h1⟩
/-- A record's bytes in F2, behind the first one. -/
def tailT (x : Rc) : List Int := (if x.kind = 1 ∨ x.kind = 2 then vbytes x.round ++ vbytes x.node else []) ++ (if x.kind = 1 then [] else vbytes x.index) ++ (if x.kind = 2 ∨ x.kind = 3 then vbytes x.cmd.kind ++ putW (wantB 2 x.cmd.kind) x.cmd 6 else []) ++ (if x.kind = 4 then vbytes x.image.length ++ x.image else [])
def encT (x : Rc) : List Int := vbytes (x.kind + 16) ++ tailT x
abbrev clo (f : FuncId) (pb xb : Nat) : Value := .func (.func f) #[] #[.pointer (some ⟨pb, 0, none⟩), .pointer (some ⟨xb, 0, none⟩)]
theorem ifs {b : Bool} {p : Prop} [Decidable p] {a z : List Int} (h : b = true ↔ p) : (if b = true then a else z) = (if p then a else z) := by
  by_cases hp : p
  · rw [if_pos hp, if_pos (h.2 hp)]
  · rw [if_neg hp, if_neg fun e => hp (h.1 e)]
theorem lenIf {b : Bool} {l a : List Int} {m p : Nat} (h : l.length ≤ m) (h2 : a.length ≤ p) : (l ++ (if b = true then a else [])).length ≤ m + p := by
  rw [List.length_append]
  cases b <;> simp <;> omega
def walkL (k : Int) (a1 a2 a3 a4 : List Int) : List Int := (((if k = 1 ∨ k = 2 then a1 else []) ++ (if k = 1 then [] else a2)) ++ (if k = 2 ∨ k = 3 then a3 else [])) ++ (if k = 4 then a4 else [])
theorem walkW_s {G0 : GH} {wb pb xb : Nat} {k k' r n i : Int} {c : Cm} {iv : Value} {a1 a2 a3 a4 : List Int} (hk : k = 1 ∨ k = 2 ∨ k = 3 ∨ k = 4) (h1 : PutsW G0 110 wb pb xb k' r n i c iv a1) (h2 : PutsW G0 111 wb pb xb k' r n i c iv a2) (h3 : PutsW G0 112 wb pb xb k' r n i c iv a3) (h4 : PutsW G0 113 wb pb xb k' r n i c iv a4)
    (l1 : a1.length ≤ 100) (l2 : a2.length ≤ 100) (l3 : a3.length ≤ 10000) {G : GH} {sv : Value} {l : List Int} (hle : GH.le G0 G) (hs : Sl G 1 (IntR .u8) sv l) (hl : l.length ≤ 1000) :
    Con Tryd.prog 109 #[.int .i64 k, clo 110 pb xb, clo 111 pb xb, clo 112 pb xb, clo 113 pb xb] G (twoW wb pb xb sv k' r n i c iv) (fun r' G' μ' => ∃ v', μ' = twoW wb pb xb v' k' r n i c iv ∧ Sl G' 1 (IntR .u8) v' (l ++ walkL k a1 a2 a3 a4)) := by
  refine v_enter Tryd.func109 rfl Tryd.ntmps109 rfl (fun B => ?_)
  obtain rfl | rfl | rfl | rfl := hk
  all_goals
    (repeat' (first | apply v_seq | apply v_region | (apply v_take; (case hg => rfl)) | (apply v_pass; (case hg => rfl); (case hn => rfl); (case hd => rfl)) | (apply v_pure; (case hop => first | (apply p_move <;> rfl) | (apply p_eqs <;> rfl) | (apply p_eq <;> rfl) | (apply p_pickT <;> rfl) | (apply p_pickF <;> rfl) | fail); (case hd => rfl)) | (apply v_guardB; (case h1 => rfl); (case h2 => rfl); all_goals (intro h; (try simp only [reduceCtorEq, dec_true, dec_false, decide_eq_true_eq, decide_eq_false_iff_not, Bool.not_eq_true', Bool.not_eq_false', Option.isNone_iff_eq_none, beq_true, beq_false, beq_iff_eq, beq_eq_false_iff_ne, ne_eq, decide_eq_decide, Bool.not_eq_true, Bool.not_eq_false, Decidable.not_not] at h); first | (exfalso; omega) | skip)) | fail)
     refine v_call (μ1 := twoW wb pb xb sv k' r n i c iv) (μ2 := []) rfl (whenW_s h1 _ hle hs (by omega)) (by simp) rfl ?_
     rintro r1 G1 _ hle1 ⟨v1, rfl, s1⟩
     repeat' (first | apply v_seq | apply v_region | apply v_nil | (apply v_pure; (case hop => first | (apply p_move <;> rfl) | (apply p_nes <;> rfl) | (apply p_ne <;> rfl) | fail); (case hd => rfl)) | fail)
     refine v_call (μ1 := twoW wb pb xb v1 k' r n i c iv) (μ2 := []) rfl (whenW_s h2 _ (GH.le_trans hle hle1) s1 (Nat.le_trans (lenIf hl l1) (by decide))) (by simp) rfl ?_
     rintro r2 G2 _ hle2 ⟨v2, rfl, s2⟩
     repeat' (first | apply v_seq | apply v_region | apply v_nil | (apply v_take; (case hg => rfl)) | (apply v_pass; (case hg => rfl); (case hn => rfl); (case hd => rfl)) | (apply v_pure; (case hop => first | (apply p_move <;> rfl) | (apply p_eqs <;> rfl) | (apply p_eq <;> rfl) | (apply p_pickT <;> rfl) | (apply p_pickF <;> rfl) | fail); (case hd => rfl)) | (apply v_guardB; (case h1 => rfl); (case h2 => rfl); all_goals (intro h; (try simp only [reduceCtorEq, dec_true, dec_false, decide_eq_true_eq, decide_eq_false_iff_not, Bool.not_eq_true', Bool.not_eq_false', Option.isNone_iff_eq_none, beq_true, beq_false, beq_iff_eq, beq_eq_false_iff_ne, ne_eq, decide_eq_decide, Bool.not_eq_true, Bool.not_eq_false, Decidable.not_not] at h); first | (exfalso; omega) | skip)) | fail)
     refine v_call (μ1 := twoW wb pb xb v2 k' r n i c iv) (μ2 := []) rfl (whenW_s h3 _ (GH.le_trans (GH.le_trans hle hle1) hle2) s2 (Nat.le_trans (lenIf (lenIf hl l1) l2) (by decide))) (by simp) rfl ?_
     rintro r3 G3 _ hle3 ⟨v3, rfl, s3⟩
     repeat' (first | apply v_region | apply v_nil | (apply v_pure; (case hop => first | (apply p_move <;> rfl) | (apply p_eqs <;> rfl) | (apply p_eq <;> rfl) | fail); (case hd => rfl)) | fail)
     refine v_call (μ1 := twoW wb pb xb v3 k' r n i c iv) (μ2 := []) rfl (whenW_s h4 _ (GH.le_trans (GH.le_trans (GH.le_trans hle hle1) hle2) hle3) s3 (Nat.le_trans (lenIf (lenIf (lenIf hl l1) l2) l3) (by decide))) (by simp) rfl ?_
     rintro r4 G4 _ hle4 ⟨v4, rfl, s4⟩
     repeat' (first | apply v_nil | fail)
     refine v_end (twoW wb pb xb v4 k' r n i c iv) (outsA0 rfl) (by simp) ?_
     refine ⟨v4, rfl, ?_⟩
     simpa [dec_eq, walkL] using s4)
end Go.Proofs.YtnoiahlpmgbhfaaDoor
/-
  recone (layer 16), the ninth part: Encode, of any record.
-/
set_option linter.unusedSimpArgs false
set_option linter.unusedVariables false
namespace Go.Proofs.YtnoiahlpmgbhfaaDoor
open Go.Vx Go.ChangeShapes Go.WideShapes Go.ChangeAt Go.RowKit
/-- The bytes of a record. -/
def headL (x : Rc) : List Int := [] ++ vbytes x.kind ++ vbytes x.round ++ vbytes x.node ++ vbytes x.index
def encL (x : Rc) : List Int := if x.kind = 2 ∨ x.kind = 3 then headL x ++ vbytes x.cmd.kind ++ putL x.cmd 6 else if x.kind = 4 then headL x ++ vbytes x.image.length ++ x.image else headL x
theorem headL_len (x : Rc) : (headL x).length ≤ 44 := by
  unfold headL
  simp only [List.length_append, List.length_nil]
  have h1 := (vbytes_len x.kind).1
  have h2 := (vbytes_len x.round).1
  have h3 := (vbytes_len x.node).1
  have h4 := (vbytes_len x.index).1
  omega
/-- No field is out of what 64 bits hold. -/
def Rc.small (x : Rc) : Prop := x.kind ≤ 9223372036854775807 ∧ x.round ≤ 9223372036854775807 ∧ x.node ≤ 9223372036854775807 ∧ x.index ≤ 9223372036854775807
def EncR (x : Rc) (r : Value) (G' : GH) (μ' : OH) : Prop := μ' = [] ∧ ∃ v, r = .tuple [v, .int .i64 (olderI x)].toArray ∧ Sl G' 1 (IntR .u8) v (if olderI x = 0 then encL x else [])
theorem encode_s {G : GH} (hT : TabsG G) {x : Rc} {xv : Value} (hx : RcV G x xv) (hc : x.cmd.ok) (hl : ¬ x.large) (hw : x.small) : Con Tryd.prog 50 #[xv] G [] (EncR x) := by
  have qo := older_s hT hx hc
  have hhl := headL_len x
  by_cases h0 : olderI x = 0
  rotate_left
  · obtain ⟨iv, rfl, hi⟩ := hx
    unfold EncR
    rw [if_neg h0]
    generalize olderI x = o at *
    refine v_enter Tryd.func50 rfl Tryd.ntmps50 rfl (fun B => ?_)
    repeat' (first | apply v_seq | apply v_region | apply v_nil | (apply v_pure; (case hop => first | (apply p_move <;> rfl) | (apply p_ne <;> rfl) | (apply p_assign <;> rfl) | fail); (case hd => rfl)) | (apply v_cond; (case hc => rfl); all_goals (intro h; (try simp only [reduceCtorEq, dec_true, dec_false, decide_eq_true_eq, decide_eq_false_iff_not, Bool.not_eq_true', Bool.not_eq_false', Option.isNone_iff_eq_none, beq_true, beq_false, beq_iff_eq, beq_eq_false_iff_ne, ne_eq, decide_eq_decide, Bool.not_eq_true, Bool.not_eq_false, Decidable.not_not] at h); first | (exfalso; omega) | skip)) | (apply v_box (zs := recL x.kind x.round x.node x.index x.cmd iv); (case hx => rfl); (case hz => rfl); (case hd => rfl); intro rb) | (apply v_callJ (hs := qo); (case ha => rfl); (case hd => rfl)) | (apply v_read; (case hop => first | (apply r_loadNo; (case hx => rfl); (case h => (repeat (first | exact List.Mem.head _ | fail))); (case hd => (repeat (first | with_reducible exact dt_nil | apply dt_here | fail))); (case hn => rfl)) | fail); (case hd => rfl)) | fail)
    refine v_ret [] (outsA2 rfl rfl rfl) (by repeat (first | exact List.nil_sublist _ | fail)) ?_
    exact ⟨rfl, _, rfl, Sl.nil⟩
  rw [h0] at qo
  have hk : 1 ≤ x.kind ∧ x.kind ≤ 4 := by
    by_cases h : x.kind < 1 ∨ 4 < x.kind
    · have : recI x.kind x.round x.node x.index x.cmd x.image.length = 5 := by rw [recI, if_pos h]
      rw [olderI, this] at h0
      simp at h0
    · omega
  have qf := fun G' => rfields_s G' x.kind
  simp only [decide_eq_true hk] at qf
  unfold Rc.large at hl
  unfold EncR
  rw [if_pos h0, h0]
  obtain ⟨hw1, hw2, hw3, hw4⟩ := hw
  obtain ⟨iv, rfl, hi⟩ := hx
  have hiv := hi
  obtain ⟨A, c, rfl, -⟩ := hi.openInt
  refine v_enter Tryd.func50 rfl Tryd.ntmps50 rfl (fun B => ?_)
  repeat' (first | apply v_seq | apply v_region | apply v_nil | apply v_skip | (apply v_pure; (case hop => first | (apply p_move <;> rfl) | (apply p_nes <;> rfl) | (apply p_assign <;> rfl) | (apply p_fieldAddrB <;> rfl) | (apply p_build; (case hz => rfl); (case hv => (simp only [List.map_cons, List.map_nil]; repeat (first | with_reducible exact evs_nil | fail))); (case hb => (apply bldL; repeat (first | exact bld_nil | fail)))) | fail); (case hd => rfl)) | (apply v_condF; (case hc => rfl)) | (apply v_box (zs := recL x.kind x.round x.node x.index x.cmd (.slice A x.image.length c)); (case hx => rfl); (case hz => rfl); (case hd => rfl); intro rb) | (apply v_box (zs := [.slice none 0 0]); (case hx => rfl); (case hz => rfl); (case hd => rfl); intro wb) | (apply v_callJ (hs := qo); (case ha => rfl); (case hd => rfl)) | (apply v_read; (case hop => first | (apply r_loadNo; (case hx => rfl); (case h => (repeat (first | exact List.Mem.head _ | fail))); (case hd => (repeat (first | with_reducible exact dt_nil | apply dt_here | fail))); (case hn => rfl)) | (apply r_load1; rfl; (apply Cell.own; (case h => (repeat (first | exact List.Mem.head _ | apply List.Mem.tail | fail))); rfl)) | fail); (case hd => rfl)) | fail)
  refine v_call (μ1 := [(wb, _)]) (μ2 := _) rfl (wnumber_s wb x.kind Sl.nil (by simp) (by omega)) (List.Perm.refl _) rfl ?_
  rintro r1 G1 _ hle1 ⟨v1, rfl, h1⟩
  repeat' (first | apply v_seq | apply v_region | apply v_nil | (apply v_pure; (case hop => first | (apply p_move <;> rfl) | (apply p_fieldAddrB <;> rfl) | fail); (case hd => rfl)) | (apply v_read; (case hop => first | (apply r_load1; rfl; (apply Cell.own; (case h => (repeat (first | exact List.Mem.head _ | apply List.Mem.tail | fail))); rfl)) | fail); (case hd => rfl)) | fail)
  refine v_call (μ1 := [(wb, _)]) (μ2 := _) rfl (wnumber_s wb x.round h1 (by have := (vbytes_len x.kind).1; simp; omega) (by omega)) (List.Perm.refl _) rfl ?_
  rintro r2 G2 _ hle2 ⟨v2, rfl, h2⟩
  repeat' (first | apply v_seq | apply v_region | apply v_nil | (apply v_pure; (case hop => first | (apply p_move <;> rfl) | (apply p_fieldAddrB <;> rfl) | fail); (case hd => rfl)) | (apply v_read; (case hop => first | (apply r_load1; rfl; (apply Cell.own; (case h => (repeat (first | exact List.Mem.head _ | apply List.Mem.tail | fail))); rfl)) | fail); (case hd => rfl)) | fail)
  refine v_call (μ1 := [(wb, _)]) (μ2 := _) rfl (wnumber_s wb x.node h2 (by have := (vbytes_len x.kind).1; have := (vbytes_len x.round).1; simp; omega) (by omega)) (List.Perm.refl _) rfl ?_
  rintro r3 G3 _ hle3 ⟨v3, rfl, h3⟩
  repeat' (first | apply v_seq | apply v_region | apply v_nil | (apply v_pure; (case hop => first | (apply p_move <;> rfl) | (apply p_fieldAddrB <;> rfl) | fail); (case hd => rfl)) | (apply v_read; (case hop => first | (apply r_load1; rfl; (apply Cell.own; (case h => (repeat (first | exact List.Mem.head _ | apply List.Mem.tail | fail))); rfl)) | fail); (case hd => rfl)) | fail)
  refine v_call (μ1 := [(wb, _)]) (μ2 := _) rfl (wnumber_s wb x.index h3 (by have := (vbytes_len x.kind).1; have := (vbytes_len x.round).1; have := (vbytes_len x.node).1; simp; omega) (by omega)) (List.Perm.refl _) rfl ?_
  rintro r4 G4 _ hle4 ⟨v4, rfl, h4⟩
  have hi4 := (((hiv.mono hle1).mono hle2).mono hle3).mono hle4
  have hh4 : Sl G4 1 (IntR .u8) v4 (headL x) := h4
  clear h1 h2 h3 h4
  obtain h | h | h | h : x.kind = 1 ∨ x.kind = 2 ∨ x.kind = 3 ∨ x.kind = 4 := by omega
  · have e : hasL x.kind = hasL 1 := by rw [h]
    simp only [e] at qf
    have ee : encL x = headL x := by rw [encL, if_neg (by omega), if_neg (by omega)]
    rw [ee]
    repeat' (first | apply v_seq | apply v_region | apply v_nil | apply v_skip | apply v_block | apply v_blk | (apply v_pure; (case hop => first | (apply p_move <;> rfl) | (apply p_assign <;> rfl) | (apply p_fieldAddrB <;> rfl) | (apply p_extract0 <;> rfl) | (apply p_extract1 <;> rfl) | fail); (case hd => rfl)) | (apply v_condF; (case hc => rfl)) | (apply v_callJ (hs := qf _); (case ha => rfl); (case hd => rfl)) | (apply v_read; (case hop => first | (apply r_load1; rfl; (apply Cell.own; (case h => (repeat (first | exact List.Mem.head _ | apply List.Mem.tail | fail))); rfl)) | fail); (case hd => rfl)) | (apply v_alloc; (case hz => rfl); (case hd => rfl); intro b) | (apply v_store; (case hp => rfl); (case hx => rfl); (case hc => rfl); (case hsz => rfl); (case h1 => rfl); (case hb => (repeat (first | exact List.Mem.head _ | fail))); (case hfit => first | exact Nat.le_of_ble_eq_true rfl | fail); (case hov => (first | ((repeat (first | with_reducible exact ov_nil | apply ov_cons | fail)); done) | fail)); (case hu => repeat (first | exact Upd.here _ _ | fail))) | fail)
    refine v_call (μ2 := _) rfl (wbytes_s wb hh4 (by omega)) (PickA.perm (by repeat (first | exact PickA.here _ | apply PickA.cons | fail))) rfl ?_
    rintro r5 G5 _ hle5 ⟨rfl, h5⟩
    repeat' (first | apply v_nil | (apply v_pure; (case hop => first | (apply p_assign <;> rfl) | fail); (case hd => rfl)) | fail)
    refine v_ret [] (outsA2 rfl rfl rfl) (by repeat (first | exact List.nil_sublist _ | fail)) ?_
    exact ⟨rfl, _, rfl, h5⟩
  · have e : hasL x.kind = hasL 2 := by rw [h]
    simp only [e] at qf
    have ee : encL x = headL x ++ vbytes x.cmd.kind ++ putL x.cmd 6 := by rw [encL, if_pos (by omega)]
    rw [ee]
    have hlen : (headL x ++ vbytes x.cmd.kind ++ putL x.cmd 6).length ≤ 1048000 := by
      rw [List.length_append, List.length_append]
      have := (vbytes_len x.cmd.kind).1
      have := putL_len x.cmd (by omega) (by omega) (by omega) 6
      omega
    repeat' (first | apply v_seq | apply v_region | apply v_nil | apply v_block | (apply v_pure; (case hop => first | (apply p_move <;> rfl) | (apply p_assign <;> rfl) | (apply p_fieldAddrB <;> rfl) | (apply p_extract0 <;> rfl) | (apply p_extract1 <;> rfl) | fail); (case hd => rfl)) | (apply v_condT; (case hc => rfl)) | (apply v_callJ (hs := qf _); (case ha => rfl); (case hd => rfl)) | (apply v_read; (case hop => first | (apply r_loadNo; (case hx => rfl); (case h => (repeat (first | exact List.Mem.head _ | apply List.Mem.tail | fail))); (case hd => (repeat (first | with_reducible exact dt_nil | apply dt_here | fail))); (case hn => rfl)) | (apply r_load1; rfl; (apply Cell.own; (case h => (repeat (first | exact List.Mem.head _ | apply List.Mem.tail | fail))); rfl)) | fail); (case hd => rfl)) | (apply v_alloc; (case hz => rfl); (case hd => rfl); intro b) | (apply v_store; (case hp => rfl); (case hx => rfl); (case hc => rfl); (case hsz => rfl); (case h1 => rfl); (case hb => (repeat (first | exact List.Mem.head _ | fail))); (case hfit => first | exact Nat.le_of_ble_eq_true rfl | fail); (case hov => (first | ((repeat (first | with_reducible exact ov_nil | apply ov_cons | fail)); done) | fail)); (case hu => repeat (first | exact Upd.here _ _ | fail))) | fail)
    refine v_call (μ1 := [(wb, _)]) (μ2 := _) rfl (cput_s x.cmd hc (by omega) (by omega) (by omega) wb hh4 (by omega)) (PickA.perm (by repeat (first | exact PickA.here _ | apply PickA.cons | fail))) rfl ?_
    rintro r5 G5 _ hle5 ⟨v5, rfl, h5⟩
    repeat' (first | apply v_seq | apply v_region | apply v_nil | apply v_blk | (apply v_pure; (case hop => first | (apply p_move <;> rfl) | fail); (case hd => rfl)) | fail)
    refine v_call (μ2 := _) rfl (wbytes_s wb h5 hlen) (PickA.perm (by repeat (first | exact PickA.here _ | fail))) rfl ?_
    rintro r6 G6 _ hle6 ⟨rfl, h6⟩
    repeat' (first | apply v_nil | (apply v_pure; (case hop => first | (apply p_assign <;> rfl) | fail); (case hd => rfl)) | fail)
    refine v_ret [] (outsA2 rfl rfl rfl) (by repeat (first | exact List.nil_sublist _ | fail)) ?_
    exact ⟨rfl, _, rfl, h6⟩
  · have e : hasL x.kind = hasL 3 := by rw [h]
    simp only [e] at qf
    have ee : encL x = headL x ++ vbytes x.cmd.kind ++ putL x.cmd 6 := by rw [encL, if_pos (by omega)]
    rw [ee]
    have hlen : (headL x ++ vbytes x.cmd.kind ++ putL x.cmd 6).length ≤ 1048000 := by
      rw [List.length_append, List.length_append]
      have := (vbytes_len x.cmd.kind).1
      have := putL_len x.cmd (by omega) (by omega) (by omega) 6
      omega
    repeat' (first | apply v_seq | apply v_region | apply v_nil | apply v_block | (apply v_pure; (case hop => first | (apply p_move <;> rfl) | (apply p_assign <;> rfl) | (apply p_fieldAddrB <;> rfl) | (apply p_extract0 <;> rfl) | (apply p_extract1 <;> rfl) | fail); (case hd => rfl)) | (apply v_condT; (case hc => rfl)) | (apply v_callJ (hs := qf _); (case ha => rfl); (case hd => rfl)) | (apply v_read; (case hop => first | (apply r_loadNo; (case hx => rfl); (case h => (repeat (first | exact List.Mem.head _ | apply List.Mem.tail | fail))); (case hd => (repeat (first | with_reducible exact dt_nil | apply dt_here | fail))); (case hn => rfl)) | (apply r_load1; rfl; (apply Cell.own; (case h => (repeat (first | exact List.Mem.head _ | apply List.Mem.tail | fail))); rfl)) | fail); (case hd => rfl)) | (apply v_alloc; (case hz => rfl); (case hd => rfl); intro b) | (apply v_store; (case hp => rfl); (case hx => rfl); (case hc => rfl); (case hsz => rfl); (case h1 => rfl); (case hb => (repeat (first | exact List.Mem.head _ | fail))); (case hfit => first | exact Nat.le_of_ble_eq_true rfl | fail); (case hov => (first | ((repeat (first | with_reducible exact ov_nil | apply ov_cons | fail)); done) | fail)); (case hu => repeat (first | exact Upd.here _ _ | fail))) | fail)
    refine v_call (μ1 := [(wb, _)]) (μ2 := _) rfl (cput_s x.cmd hc (by omega) (by omega) (by omega) wb hh4 (by omega)) (PickA.perm (by repeat (first | exact PickA.here _ | apply PickA.cons | fail))) rfl ?_
    rintro r5 G5 _ hle5 ⟨v5, rfl, h5⟩
    repeat' (first | apply v_seq | apply v_region | apply v_nil | apply v_blk | (apply v_pure; (case hop => first | (apply p_move <;> rfl) | fail); (case hd => rfl)) | fail)
    refine v_call (μ2 := _) rfl (wbytes_s wb h5 hlen) (PickA.perm (by repeat (first | exact PickA.here _ | fail))) rfl ?_
    rintro r6 G6 _ hle6 ⟨rfl, h6⟩
    repeat' (first | apply v_nil | (apply v_pure; (case hop => first | (apply p_assign <;> rfl) | fail); (case hd => rfl)) | fail)
    refine v_ret [] (outsA2 rfl rfl rfl) (by repeat (first | exact List.nil_sublist _ | fail)) ?_
    exact ⟨rfl, _, rfl, h6⟩
  · have e : hasL x.kind = hasL 4 := by rw [h]
    simp only [e] at qf
    have ee : encL x = headL x ++ vbytes x.image.length ++ x.image := by rw [encL, if_neg (by omega), if_pos (by omega)]
    rw [ee]
    have hlen : (headL x ++ vbytes x.image.length ++ x.image).length ≤ 1048000 := by
      rw [List.length_append, List.length_append]
      have := (vbytes_len (x.image.length : Nat)).1
      omega
    repeat' (first | apply v_seq | apply v_region | apply v_nil | apply v_block | (apply v_pure; (case hop => first | (apply p_move <;> rfl) | (apply p_assign <;> rfl) | (apply p_fieldAddrB <;> rfl) | (apply p_extract0 <;> rfl) | (apply p_extract1 <;> rfl) | fail); (case hd => rfl)) | (apply v_condT; (case hc => rfl)) | (apply v_condF; (case hc => rfl)) | (apply v_callJ (hs := qf _); (case ha => rfl); (case hd => rfl)) | (apply v_read; (case hop => first | (apply r_load1; rfl; (apply Cell.own; (case h => (repeat (first | exact List.Mem.head _ | apply List.Mem.tail | fail))); rfl)) | fail); (case hd => rfl)) | (apply v_alloc; (case hz => rfl); (case hd => rfl); intro b) | (apply v_store; (case hp => rfl); (case hx => rfl); (case hc => rfl); (case hsz => rfl); (case h1 => rfl); (case hb => (repeat (first | exact List.Mem.head _ | fail))); (case hfit => first | exact Nat.le_of_ble_eq_true rfl | fail); (case hov => (first | ((repeat (first | with_reducible exact ov_nil | apply ov_cons | fail)); done) | fail)); (case hu => repeat (first | exact Upd.here _ _ | fail))) | fail)
    refine v_call (μ1 := [(wb, _)]) (μ2 := _) rfl (wraw_s wb hh4 hi4 (by omega) (by omega)) (PickA.perm (by repeat (first | exact PickA.here _ | apply PickA.cons | fail))) rfl ?_
    rintro r5 G5 _ hle5 ⟨v5, rfl, h5⟩
    repeat' (first | apply v_seq | apply v_region | apply v_nil | apply v_blk | (apply v_pure; (case hop => first | (apply p_move <;> rfl) | fail); (case hd => rfl)) | fail)
    refine v_call (μ2 := _) rfl (wbytes_s wb h5 hlen) (PickA.perm (by repeat (first | exact PickA.here _ | fail))) rfl ?_
    rintro r6 G6 _ hle6 ⟨rfl, h6⟩
    repeat' (first | apply v_nil | (apply v_pure; (case hop => first | (apply p_assign <;> rfl) | fail); (case hd => rfl)) | fail)
    refine v_ret [] (outsA2 rfl rfl rfl) (by repeat (first | exact List.nil_sublist _ | fail)) ?_
    exact ⟨rfl, _, rfl, h6⟩
end Go.Proofs.YtnoiahlpmgbhfaaDoor
/-
  recone (layer 16), the tenth part: the bytes of a number, by the reference.
-/
set_option linter.unusedSimpArgs false
set_option linter.unusedVariables false
namespace Go.Proofs.YtnoiahlpmgbhfaaDoor
open Go.Vx Go.ChangeShapes Go.WideShapes Go.ChangeAt Go.RowKit
theorem rnum_s (G : GH) (n : Int) (hn : n ≤ 9223372036854775807) : Con Tryd.prog 59 #[.int .i64 n] G [] (fun r G' μ' => G' = G ∧ Grow 5 1 r (vbytes n).length ((vbytes n).map (.int .u8 ·)) μ') := by
  refine v_enter Tryd.func59 rfl Tryd.ntmps59 rfl (fun B => ?_)
  repeat' (first | apply v_seq | apply v_region | apply v_nil | apply v_skip | apply v_block | (apply v_pure; (case hop => first | (apply p_move <;> rfl) | (apply p_lt <;> rfl) | (apply p_assign <;> rfl)); (case hd => rfl)) | (apply v_cond; (case hc => rfl); all_goals (intro h; (try simp only [reduceCtorEq, dec_true, dec_false, decide_eq_true_eq, decide_eq_false_iff_not, Bool.not_eq_true', Bool.not_eq_false', Option.isNone_iff_eq_none, beq_true, beq_false, beq_iff_eq, beq_eq_false_iff_ne, ne_eq, decide_eq_decide, Bool.not_eq_true, Bool.not_eq_false, Decidable.not_not] at h); (skip))))
  · have hv0 : vbytes n = vb 10 0 := by rw [vbytes, show max n 0 = 0 by omega]
    have hp : (0 : Int) < 128 ^ (10 + 1) := by have := p128 n hn; omega
    refine v_loopI (ι := Nat × Int × List Int) [3, 0] (fun x us G2 μ' => G2 = G ∧ ∃ v, us = [v, Value.int .i64 x.2.1] ∧ Grow 5 1 v x.2.2.length (x.2.2.map (.int .u8 ·)) μ' ∧ 0 ≤ x.2.1 ∧ x.2.1 < 128 ^ (x.1 + 1) ∧ x.2.1 ≤ 9223372036854775807 ∧ x.1 ≤ 10 ∧ x.2.2.length ≤ 10 - x.1 ∧ vbytes n = x.2.2 ++ vb x.1 x.2.1) (fun x => x.1) rfl (10, 0, []) ⟨rfl, _, rfl, Grow.nil _ _, by simp only; omega, hp, by simp only; omega, by simp, by simp, hv0⟩ ?_
    clear hv0 hp
    rintro ⟨f, m, xs⟩ us G2 μ' ⟨rfl, v, rfl, hg2, h0, hlt, hm, hf, hx, he⟩
    simp only at hg2 h0 hlt hm hf hx he
    try dsimp only
    repeat' (first | (apply v_pure; (case hop => (apply p_convU8; (case hx => rfl))); (case hd => rfl)) | apply v_seq | apply v_region | apply v_nil | apply v_skip | apply v_block | (apply v_exit; (case hp => rfl)) | (apply v_pure; (case hop => first | (apply p_move <;> rfl) | (apply p_gt <;> rfl) | (apply p_add; (case hx => rfl); (case hy => rfl); (case h => omega)) | (apply p_rem0; (case hx => rfl); (case hy => rfl); all_goals omega)); (case hd => rfl)) | (apply v_cond; (case hc => rfl); all_goals (intro h; (try simp only [reduceCtorEq, dec_true, dec_false, decide_eq_true_eq, decide_eq_false_iff_not, Bool.not_eq_true', Bool.not_eq_false', Option.isNone_iff_eq_none, beq_true, beq_false, beq_iff_eq, beq_eq_false_iff_ne, ne_eq, decide_eq_decide, Bool.not_eq_true, Bool.not_eq_false, Decidable.not_not] at h); (skip))) | (apply v_buildSlice; (case hz => rfl); (case hi => rfl); (case hv => (simp only [List.map_cons, List.map_nil]; repeat (first | with_reducible exact evs_nil | (apply evs_cons; (case h1 => rfl))))); (case hp => ((apply pk_cons; (case hc => rfl); (case hs => rfl); (case h => (with_reducible exact pk_nil)); (case he => (((repeat (first | with_reducible exact ap_nil | apply ap_cons)); done)))))); (case hb => rfl); (case hd => rfl); intro b))
    · obtain ⟨f', rfl⟩ : ∃ f', f = f' + 1 := by
        cases f with
        | zero => simp at hlt; omega
        | succ f' => exact ⟨f', rfl⟩
      have hvb : vb (f' + 1) m = (m % 128 + 128) :: vb f' (m / 128) := by rw [vb_succ, if_neg (by omega)]
      refine v_append (e := 5) (sz := 1) (zero := .int .u8 0) (m' := 1) (us := [.int .u8 ((128 + m % 128) % 256)]) rfl (by omega) rfl rfl hg2 (PickA.perm (by repeat (first | exact PickA.last | apply PickA.cons))) (Src.own (List.Mem.head _) rfl) rfl (by omega) (by simp only [maxLen]; omega) rfl ?_
      intro v' ν' hg'
      repeat' (first | apply v_region | apply v_nil | apply v_blk | (apply v_pure; (case hop => first | (apply p_move <;> rfl) | (apply p_assign <;> rfl) | (apply p_quo; (case hx => rfl); (case hy => rfl); all_goals omega)); (case hd => rfl)))
      refine v_only ν' (by repeat (exact PickA.here _)) ?_
      refine v_againI (f', m / 128, xs ++ [m % 128 + 128]) rfl ⟨rfl, v', rfl, ?_, by simp only; omega, ?_, by simp only; omega, by simp only; omega, by simp; omega, ?_⟩ (by simp)
      · simp only
        rw [show (128 + m % 128) % 256 = m % 128 + 128 by omega] at hg'
        simpa using hg'
      · simp only
        have : (128 : Int) ^ (f' + 1 + 1) = 128 * 128 ^ (f' + 1) := by rw [Int.pow_succ, Int.mul_comm]
        omega
      · simp only
        rw [he, hvb]; simp
    · have hvb : vb f m = [m] := by
        cases f with
        | zero => rfl
        | succ f => rw [vb_succ, if_pos (by omega)]
      refine v_append (e := 5) (sz := 1) (zero := .int .u8 0) (m' := 1) (us := [.int .u8 (m % 256)]) rfl (by omega) rfl rfl hg2 (PickA.perm (by repeat (first | exact PickA.last | apply PickA.cons))) (Src.own (List.Mem.head _) rfl) rfl (by omega) (by simp only [maxLen]; omega) rfl ?_
      intro v' ν' hg'
      repeat' (first | apply v_nil | (apply v_pure; (case hop => (apply p_assign <;> rfl)); (case hd => rfl)))
      refine v_ret ν' (outsA1 rfl rfl) (by repeat (exact List.sublist_append_left _ _)) ?_
      refine ⟨rfl, ?_⟩
      rw [he, hvb]
      rw [show m % 256 = m by omega] at hg'
      simpa using hg'
  · have hv0 : vbytes n = vb 10 n := by rw [vbytes, show max n 0 = n by omega]
    have hp : (n : Int) < 128 ^ (10 + 1) := by have := p128 n hn; omega
    refine v_loopI (ι := Nat × Int × List Int) [3, 0] (fun x us G2 μ' => G2 = G ∧ ∃ v, us = [v, Value.int .i64 x.2.1] ∧ Grow 5 1 v x.2.2.length (x.2.2.map (.int .u8 ·)) μ' ∧ 0 ≤ x.2.1 ∧ x.2.1 < 128 ^ (x.1 + 1) ∧ x.2.1 ≤ 9223372036854775807 ∧ x.1 ≤ 10 ∧ x.2.2.length ≤ 10 - x.1 ∧ vbytes n = x.2.2 ++ vb x.1 x.2.1) (fun x => x.1) rfl (10, n, []) ⟨rfl, _, rfl, Grow.nil _ _, by simp only; omega, hp, by simp only; omega, by simp, by simp, hv0⟩ ?_
    clear hv0 hp
    rintro ⟨f, m, xs⟩ us G2 μ' ⟨rfl, v, rfl, hg2, h0, hlt, hm, hf, hx, he⟩
    simp only at hg2 h0 hlt hm hf hx he
    try dsimp only
    repeat' (first | (apply v_pure; (case hop => (apply p_convU8; (case hx => rfl))); (case hd => rfl)) | apply v_seq | apply v_region | apply v_nil | apply v_skip | apply v_block | (apply v_exit; (case hp => rfl)) | (apply v_pure; (case hop => first | (apply p_move <;> rfl) | (apply p_gt <;> rfl) | (apply p_add; (case hx => rfl); (case hy => rfl); (case h => omega)) | (apply p_rem0; (case hx => rfl); (case hy => rfl); all_goals omega)); (case hd => rfl)) | (apply v_cond; (case hc => rfl); all_goals (intro h; (try simp only [reduceCtorEq, dec_true, dec_false, decide_eq_true_eq, decide_eq_false_iff_not, Bool.not_eq_true', Bool.not_eq_false', Option.isNone_iff_eq_none, beq_true, beq_false, beq_iff_eq, beq_eq_false_iff_ne, ne_eq, decide_eq_decide, Bool.not_eq_true, Bool.not_eq_false, Decidable.not_not] at h); (skip))) | (apply v_buildSlice; (case hz => rfl); (case hi => rfl); (case hv => (simp only [List.map_cons, List.map_nil]; repeat (first | with_reducible exact evs_nil | (apply evs_cons; (case h1 => rfl))))); (case hp => ((apply pk_cons; (case hc => rfl); (case hs => rfl); (case h => (with_reducible exact pk_nil)); (case he => (((repeat (first | with_reducible exact ap_nil | apply ap_cons)); done)))))); (case hb => rfl); (case hd => rfl); intro b))
    · obtain ⟨f', rfl⟩ : ∃ f', f = f' + 1 := by
        cases f with
        | zero => simp at hlt; omega
        | succ f' => exact ⟨f', rfl⟩
      have hvb : vb (f' + 1) m = (m % 128 + 128) :: vb f' (m / 128) := by rw [vb_succ, if_neg (by omega)]
      refine v_append (e := 5) (sz := 1) (zero := .int .u8 0) (m' := 1) (us := [.int .u8 ((128 + m % 128) % 256)]) rfl (by omega) rfl rfl hg2 (PickA.perm (by repeat (first | exact PickA.last | apply PickA.cons))) (Src.own (List.Mem.head _) rfl) rfl (by omega) (by simp only [maxLen]; omega) rfl ?_
      intro v' ν' hg'
      repeat' (first | apply v_region | apply v_nil | apply v_blk | (apply v_pure; (case hop => first | (apply p_move <;> rfl) | (apply p_assign <;> rfl) | (apply p_quo; (case hx => rfl); (case hy => rfl); all_goals omega)); (case hd => rfl)))
      refine v_only ν' (by repeat (exact PickA.here _)) ?_
      refine v_againI (f', m / 128, xs ++ [m % 128 + 128]) rfl ⟨rfl, v', rfl, ?_, by simp only; omega, ?_, by simp only; omega, by simp only; omega, by simp; omega, ?_⟩ (by simp)
      · simp only
        rw [show (128 + m % 128) % 256 = m % 128 + 128 by omega] at hg'
        simpa using hg'
      · simp only
        have : (128 : Int) ^ (f' + 1 + 1) = 128 * 128 ^ (f' + 1) := by rw [Int.pow_succ, Int.mul_comm]
        omega
      · simp only
        rw [he, hvb]; simp
    · have hvb : vb f m = [m] := by
        cases f with
        | zero => rfl
        | succ f => rw [vb_succ, if_pos (by omega)]
      refine v_append (e := 5) (sz := 1) (zero := .int .u8 0) (m' := 1) (us := [.int .u8 (m % 256)]) rfl (by omega) rfl rfl hg2 (PickA.perm (by repeat (first | exact PickA.last | apply PickA.cons))) (Src.own (List.Mem.head _) rfl) rfl (by omega) (by simp only [maxLen]; omega) rfl ?_
      intro v' ν' hg'
      repeat' (first | apply v_nil | (apply v_pure; (case hop => (apply p_assign <;> rfl)); (case hd => rfl)))
      refine v_ret ν' (outsA1 rfl rfl) (by repeat (exact List.sublist_append_left _ _)) ?_
      refine ⟨rfl, ?_⟩
      rw [he, hvb]
      rw [show m % 256 = m by omega] at hg'
      simpa using hg'
end Go.Proofs.YtnoiahlpmgbhfaaDoor
/-
  recone (layer 16), the eleventh part: the bytes of a text, by the reference.
-/
set_option linter.unusedSimpArgs false
set_option linter.unusedVariables false
namespace Go.Proofs.YtnoiahlpmgbhfaaDoor
open Go.Vx Go.ChangeShapes Go.WideShapes Go.ChangeAt Go.RowKit
attribute [local semireducible] MoveOp in
theorem m_appendS {ty t u : TypeId} {σ : Env} {G : GH} {μ μr ν : OH} {s x : Operand} {v : Value} {m : Nat} {xs : List Value} {z : ByteArray} [Ty Tryd.prog t (.slice 5)] [Ty Tryd.prog u .string] (hs : Env.ev σ s = some v) (hx : Env.ev σ x = some (.string z)) (hg : Grow 5 1 v m xs ν) (hm : 0 < m) (hp : μ.Perm (ν ++ μr)) (hb : m + z.size ≤ 140737488355328) :
    MoveOp Tryd.prog (.call { callee := .builtin .append, args := #[s, x], argTypes := #[t, u] }) ty σ G μ (fun v' G' μ' => ∃ ν', Grow 5 1 v' (m + z.size) (xs ++ Lib.strCells z) ν' ∧ G' = G ∧ μ' = ν' ++ μr) := by
  intro dst pos af g ρ hρ w hw a K Q hK
  have hw' := hw.perm hp
  obtain ⟨i, hi, hi1, hi2, hi3⟩ := Lay.infoEx (P := Tryd.prog) (t := 5) (agg := false) (size := 1) (bytes := 1) (zero := .int .u8 0) inferInstance
  have ht : (Tryd.prog).underlying t = some (.slice 5) := Ty.h
  have hu : (Tryd.prog).underlying u = some .string := Ty.h
  have hex : ∀ (r : Result Value), (Builtin.append_ #[t, u] ty #[v, .string z]).run Tryd.prog w = r → (execOp ρ ⟨dst, .call { callee := .builtin .append, args := #[s, x], argTypes := #[t, u] }, ty, pos, af, g⟩).run Tryd.prog w = r.andThen fun v w' => .ok (.value v) w' := by
    intro r hr
    subst hr
    simp only [execOp, resolve, invoke, builtin, Sem.run_bind, Sem.run_pure, Result.andThen_ok, List.map_toArray, List.map_cons, List.map_nil, hρ _ _ hs, hρ _ _ hx]
  obtain ⟨hl, ⟨rfl, h0, rfl⟩ | ⟨b, cap, spare, rfl, rfl, hc1, hc2, hc3⟩⟩ := hg
  · omega
  have hblk : w.heap[b]? = some (.cells (xs ++ spare).toArray 5 (0, 0)) := hw'.own b _ (by simp)
  have hsl := Lib.strCells_length z
  by_cases hroom : m + z.size ≤ cap
  · have hr := Lib.run_append_room_string (P := Tryd.prog) w t u ty 5 i ht hu hi hi1 b m cap (xs ++ spare).toArray hblk z hroom (by rw [List.size_toArray, hc3]; omega)
    rw [hex _ hr]
    have htake : ((xs ++ spare).toArray.toList.take m ++ Lib.strCells z ++ (xs ++ spare).toArray.toList.drop (m + z.size)) = xs ++ Lib.strCells z ++ spare.drop z.size := by
      have hl' : m = xs.length := by omega
      rw [hl']
      show (xs ++ spare).take xs.length ++ Lib.strCells z ++ (xs ++ spare).drop (xs.length + z.size) = _
      rw [List.take_left, ← List.drop_drop, List.drop_left]
    rw [htake]
    have hst : Step G ([(b, .cells (xs ++ spare).toArray 5 (0, 0))] ++ μr) w G ([(b, .cells (xs ++ Lib.strCells z ++ spare.drop z.size).toArray 5 (0, 0))] ++ μr) (w.setRow b (xs ++ Lib.strCells z ++ spare.drop z.size).toArray) :=
      Step.row hw' (b := b) (vs := xs ++ spare) (by simp [Has]) (.here _ _)
    refine hK _ _ G _ (hst.permL hp.symm) ⟨[(b, .cells (xs ++ Lib.strCells z ++ spare.drop z.size).toArray 5 (0, 0))], ⟨by rw [List.length_append, hl, hsl]; omega, .inr ⟨b, cap, spare.drop z.size, rfl, rfl, hroom, hc2, ?_⟩⟩, rfl, rfl⟩
    simp only [List.length_append, List.length_drop, hl, hsl] at hc3 ⊢
    omega
  · have holds : ∀ j q, xs[j]? = some q → w.cell? ((⟨b, 0, none⟩ : Addr).add j) = some q := by
      intro j q hq
      have hj : j < xs.length := (List.getElem?_eq_some_iff.1 hq).1
      rw [add_mk, Nat.zero_add]
      unfold World.cell?
      simp only [hblk]
      simp only [Option.isSome_none, Bool.false_eq_true, if_false, List.getElem?_toArray]
      rw [List.getElem?_append_left hj]
      exact hq
    have hr := Lib.run_append_grow_string (P := Tryd.prog) w t u ty 5 i (.int .u8 0) ht hu hi hi3 ⟨b, 0, none⟩ m cap xs (by rw [hl, hi1]) holds z (by omega) (by omega) (growslice_fits (by omega) (by rw [hi2]; omega))
    rw [hex _ hr]
    have hge := grownCap_ge w (m + z.size) cap 5
    have hst := (Step.drew hw' 1).trans (Step.alloc (Step.drew hw' 1).mem (.cells (xs.toArray ++ (Lib.strCells z).toArray ++ Builtin.zeroCells (Value.int .u8 0).cells (grownCap w (m + z.size) cap 5 - (m + z.size))) 5 (0, 0)))
    have hst2 := hst.drop (List.Sublist.cons_cons _ (List.Sublist.cons _ (List.Sublist.refl μr)))
    refine hK _ _ G _ (hst2.permL hp.symm) ⟨[(w.heap.size, .cells (xs ++ Lib.strCells z ++ (Builtin.zeroCells (Value.int .u8 0).cells (grownCap w (m + z.size) cap 5 - (m + z.size))).toList).toArray 5 (0, 0))], ⟨by rw [List.length_append, hl, hsl]; omega, .inr ⟨_, _, _, rfl, rfl, hge, grownCap_le_maxLen w _ _ _ (by simp only [maxLen]; omega), ?_⟩⟩, rfl, ?_⟩
    · simp only [List.length_append, hl, hsl, Array.length_toList, size_zeroCells]
      have : (Value.int .u8 0).cells.size = 1 := rfl
      rw [this]
      omega
    · simp
theorem strCells_map (s : ByteArray) : Lib.strCells s = (sbytes s).map (Value.int .u8 ·) := by
  rw [Lib.strCells, sbytes, List.map_map]
  rfl
theorem rtext_s (G : GH) (s : ByteArray) (hz : s.size ≤ 100000) : Con Tryd.prog 98 #[.string s] G [] (fun r G' μ' => G' = G ∧ Grow 5 1 r (vbytes s.size ++ sbytes s).length ((vbytes s.size ++ sbytes s).map (.int .u8 ·)) μ') := by
  have hl := vbytes_len (s.size : Nat)
  refine v_enter Tryd.func98 rfl Tryd.ntmps98 rfl (fun B => ?_)
  repeat' (first | apply v_seq | apply v_region | apply v_nil | apply v_skip | apply v_block | apply v_blk | (apply v_exit; (case hp => rfl)) | (apply v_take; (case hg => rfl)) | (apply v_pass; (case hg => rfl); (case hn => rfl); (case hd => rfl)) | (apply v_passN; (case hg => rfl); (case hn => rfl); (case hd => rfl)) | (apply v_pure; (case hop => first | (apply p_move <;> rfl) | (apply p_assign <;> rfl) | (apply p_lenSlice <;> rfl) | (apply p_lenString <;> rfl)); (case hd => rfl)) | (apply v_condT; (case hc => rfl)) | (apply v_condF; (case hc => rfl)) | (apply v_cond; (case hc => rfl); all_goals (intro h; (try simp only [reduceCtorEq, dec_true, dec_false, decide_eq_true_eq, decide_eq_false_iff_not, Bool.not_eq_true', Bool.not_eq_false', Option.isNone_iff_eq_none, beq_true, beq_false, beq_iff_eq, beq_eq_false_iff_ne, ne_eq, decide_eq_decide, Bool.not_eq_true, Bool.not_eq_false, Decidable.not_not] at h); first | done | (exfalso; omega) | (exfalso; exact h (by with_reducible assumption)) | (exfalso; revert h; rw [imp_false]; with_reducible assumption) | skip)) | (apply v_guardB; (case h1 => rfl); (case h2 => rfl); all_goals (intro h; (try simp only [reduceCtorEq, dec_true, dec_false, decide_eq_true_eq, decide_eq_false_iff_not, Bool.not_eq_true', Bool.not_eq_false', Option.isNone_iff_eq_none, beq_true, beq_false, beq_iff_eq, beq_eq_false_iff_ne, ne_eq, decide_eq_decide, Bool.not_eq_true, Bool.not_eq_false, Decidable.not_not] at h); first | done | (exfalso; omega) | (exfalso; exact h (by with_reducible assumption)) | (exfalso; revert h; rw [imp_false]; with_reducible assumption) | skip)) | fail)
  refine v_call (μ1 := []) (μ2 := _) rfl (rnum_s G (s.size : Nat) (by omega)) (List.Perm.refl _) rfl ?_
  rintro r G' μ1 - ⟨rfl, hg⟩
  repeat' (first | apply v_seq | apply v_region | apply v_nil | apply v_skip | apply v_block | apply v_blk | (apply v_exit; (case hp => rfl)) | (apply v_take; (case hg => rfl)) | (apply v_pass; (case hg => rfl); (case hn => rfl); (case hd => rfl)) | (apply v_passN; (case hg => rfl); (case hn => rfl); (case hd => rfl)) | (apply v_pure; (case hop => first | (apply p_move <;> rfl) | (apply p_assign <;> rfl) | (apply p_lenSlice <;> rfl) | (apply p_lenString <;> rfl)); (case hd => rfl)) | (apply v_condT; (case hc => rfl)) | (apply v_condF; (case hc => rfl)) | (apply v_cond; (case hc => rfl); all_goals (intro h; (try simp only [reduceCtorEq, dec_true, dec_false, decide_eq_true_eq, decide_eq_false_iff_not, Bool.not_eq_true', Bool.not_eq_false', Option.isNone_iff_eq_none, beq_true, beq_false, beq_iff_eq, beq_eq_false_iff_ne, ne_eq, decide_eq_decide, Bool.not_eq_true, Bool.not_eq_false, Decidable.not_not] at h); first | done | (exfalso; omega) | (exfalso; exact h (by with_reducible assumption)) | (exfalso; revert h; rw [imp_false]; with_reducible assumption) | skip)) | (apply v_guardB; (case h1 => rfl); (case h2 => rfl); all_goals (intro h; (try simp only [reduceCtorEq, dec_true, dec_false, decide_eq_true_eq, decide_eq_false_iff_not, Bool.not_eq_true', Bool.not_eq_false', Option.isNone_iff_eq_none, beq_true, beq_false, beq_iff_eq, beq_eq_false_iff_ne, ne_eq, decide_eq_decide, Bool.not_eq_true, Bool.not_eq_false, Decidable.not_not] at h); first | done | (exfalso; omega) | (exfalso; exact h (by with_reducible assumption)) | (exfalso; revert h; rw [imp_false]; with_reducible assumption) | skip)) | fail)
  refine v_move (m_appendS rfl rfl hg (by omega) (List.Perm.refl _) (by omega)) rfl ?_
  rintro v' G2 μ2 ⟨ν', hg', rfl, rfl⟩
  repeat' (first | apply v_seq | apply v_region | apply v_nil | apply v_skip | apply v_block | apply v_blk | (apply v_exit; (case hp => rfl)) | (apply v_take; (case hg => rfl)) | (apply v_pass; (case hg => rfl); (case hn => rfl); (case hd => rfl)) | (apply v_passN; (case hg => rfl); (case hn => rfl); (case hd => rfl)) | (apply v_pure; (case hop => first | (apply p_move <;> rfl) | (apply p_assign <;> rfl) | (apply p_lenSlice <;> rfl) | (apply p_lenString <;> rfl)); (case hd => rfl)) | (apply v_condT; (case hc => rfl)) | (apply v_condF; (case hc => rfl)) | (apply v_cond; (case hc => rfl); all_goals (intro h; (try simp only [reduceCtorEq, dec_true, dec_false, decide_eq_true_eq, decide_eq_false_iff_not, Bool.not_eq_true', Bool.not_eq_false', Option.isNone_iff_eq_none, beq_true, beq_false, beq_iff_eq, beq_eq_false_iff_ne, ne_eq, decide_eq_decide, Bool.not_eq_true, Bool.not_eq_false, Decidable.not_not] at h); first | done | (exfalso; omega) | (exfalso; exact h (by with_reducible assumption)) | (exfalso; revert h; rw [imp_false]; with_reducible assumption) | skip)) | (apply v_guardB; (case h1 => rfl); (case h2 => rfl); all_goals (intro h; (try simp only [reduceCtorEq, dec_true, dec_false, decide_eq_true_eq, decide_eq_false_iff_not, Bool.not_eq_true', Bool.not_eq_false', Option.isNone_iff_eq_none, beq_true, beq_false, beq_iff_eq, beq_eq_false_iff_ne, ne_eq, decide_eq_decide, Bool.not_eq_true, Bool.not_eq_false, Decidable.not_not] at h); first | done | (exfalso; omega) | (exfalso; exact h (by with_reducible assumption)) | (exfalso; revert h; rw [imp_false]; with_reducible assumption) | skip)) | fail)
  refine v_ret ν' (outsA1 rfl rfl) (by repeat (first | exact List.Sublist.refl _ | exact List.nil_sublist _ | apply List.Sublist.cons_cons | apply List.Sublist.cons | exact List.sublist_append_left _ _ | apply List.sublist_append_of_sublist_right)) ?_
  refine ⟨rfl, ?_⟩
  rw [strCells_map, ← List.map_append, ← sbytes_length, ← List.length_append] at hg'
  rw [sbytes_length] at hg'
  exact hg'
end Go.Proofs.YtnoiahlpmgbhfaaDoor
/-
  recone (layer 16), the twelfth part: the bytes of a command, by the reference.
-/
set_option linter.unusedSimpArgs false
set_option linter.unusedVariables false
namespace Go.Proofs.YtnoiahlpmgbhfaaDoor
open Go.Vx Go.ChangeShapes Go.WideShapes Go.ChangeAt Go.RowKit
theorem sbytes_wf (s : ByteArray) : ∀ x ∈ sbytes s, (Lit.int .u8 x).wf = true := by
  intro x hx
  simp only [sbytes, List.mem_map] at hx
  obtain ⟨b, _, rfl⟩ := hx
  have := b.toNat_lt
  exact WalkArith.wf_u8 (by omega)
theorem tbytes_wf (s : ByteArray) (hz : s.size ≤ 100000) : ∀ x ∈ vbytes s.size ++ sbytes s, (Lit.int .u8 x).wf = true := fun x hx => by
  rcases List.mem_append.1 hx with hx | hx
  · exact vbytes_wf (by omega) x hx
  · exact sbytes_wf s x hx
theorem want2 {v k : Int} (hv : v ≠ 1) : wantB v k = fun j => decide (band (cmdFields k).1 (hasOf j) ≠ 0) := by
  funext j
  rw [wantB, if_neg hv]
theorem rcmdV_s (G : GH) (v : Int) (c : Cm) (hc : c.ok) (hk : c.key.size ≤ 1000) (hv : c.val.size ≤ 1000) (ho : c.old.size ≤ 1000) : Con Tryd.prog 60 #[.int .i64 v, .agg c.cells.toArray] G [] (fun r G' μ' => GH.le G G' ∧ Grow 5 1 r (vbytes c.kind ++ putW (wantB v c.kind) c 6).length ((vbytes c.kind ++ putW (wantB v c.kind) c 6).map (.int .u8 ·)) μ') := by
  obtain ⟨hk1, hc1, hs1, -, -, -, hn1⟩ := hc
  simp [Lit.wf, IntKind.min, IntKind.max, IntKind.signed, IntKind.bits] at hk1 hc1 hs1 hn1
  have qw := fun G => owned_s G c.kind
  have qm := fun G => member_s G c.kind
  have hL0 := (vbytes_len c.kind).1
  have hL1 := (vbytes_len c.client).1
  have hL2 := (vbytes_len c.seq).1
  have hL3 := (vbytes_len (c.key.size : Nat)).1
  have hL4 := (vbytes_len (c.val.size : Nat)).1
  have hL5 := (vbytes_len c.node).1
  have hL6 := (vbytes_len (c.old.size : Nat)).1
  refine v_enter Tryd.func60 rfl Tryd.ntmps60 rfl (fun B => ?_)
  repeat' (first | apply v_seq | apply v_region | apply v_nil | (apply v_pure; (case hop => first | (apply p_assign <;> rfl) | (apply p_fieldAddrB <;> rfl) | fail); (case hd => rfl)) | (apply v_box (zs := c.cells); (case hx => rfl); (case hz => rfl); (case hd => rfl); intro cb) | (apply v_read; (case hop => first | (apply r_load1; rfl; (apply Cell.own; (case h => (repeat (first | exact List.Mem.head _ | fail))); rfl)) | fail); (case hd => rfl)) | fail)
  refine v_call (μ1 := []) (μ2 := _) rfl (rnum_s G c.kind (by omega)) (List.Perm.refl _) rfl ?_
  rintro v0 G0 ν0 - ⟨rfl, ho0⟩
  obtain hq | hq | hq | hq | hq | hq : v = 1 ∨ (v ≠ 1 ∧ c.kind = 2) ∨ (v ≠ 1 ∧ (c.kind = 3 ∨ c.kind = 4)) ∨ (v ≠ 1 ∧ c.kind = 5) ∨ (v ≠ 1 ∧ (c.kind = 7 ∨ c.kind = 8)) ∨ (v ≠ 1 ∧ (¬ (2 ≤ c.kind ∧ c.kind ≤ 5) ∧ ¬ (c.kind = 7 ∨ c.kind = 8))) := by omega
  · subst hq
    repeat' (first | apply v_seq | apply v_region | apply v_nil | (apply v_pass; (case hg => rfl); (case hn => rfl); (case hd => rfl)) | (apply v_pure; (case hop => first | (apply p_move <;> rfl) | (apply p_eqs <;> rfl) | (apply p_assign <;> rfl) | (apply p_pickT <;> rfl) | (apply p_fieldAddrB <;> rfl) | fail); (case hd => rfl)) | (apply v_condT; (case hc => rfl)) | (apply v_read; (case hop => first | (apply r_load1; rfl; (apply Cell.own; (case h => (repeat (first | exact List.Mem.head _ | apply List.mem_append_right))); rfl)) | fail); (case hd => rfl)) | fail)
    refine v_call (μ1 := []) (μ2 := _) rfl (rnum_s _ c.client (by omega)) (List.Perm.refl _) rfl ?_
    rintro r1 G1 μ1 - ⟨rfl, hg1⟩
    refine v_frz μ1 (by repeat (first | exact PickA.here _ | fail)) ?_
    intro H1 hle1 hG1
    have hs1 : Sl H1 1 (IntR .u8) r1 (vbytes c.client) := hg1.ints hG1 (fun x hx => vbytes_wf (by omega) x hx)
    have hsrc1 := fun μ => Src.ints (μ := μ) hs1
    obtain ⟨A1, c1, rfl, -, -⟩ := hg1.shape
    repeat' (fail)
    refine v_append (e := 5) (sz := 1) (zero := .int .u8 0) rfl (by omega) rfl rfl ho0 (PickA.perm (by repeat (first | exact PickA.here _ | fail))) (hsrc1 _) (allOne_ints _) (by (try simp only [List.length_append, sbytes_length]); omega) (by simp only [maxLen]; (try simp only [List.length_append, sbytes_length]); omega) rfl fun v1 ν1 ho1 => ?_
    rw [← List.map_append, ← List.length_append] at ho1
    repeat' (first | apply v_seq | apply v_region | apply v_nil | (apply v_pure; (case hop => first | (apply p_move <;> rfl) | (apply p_assign <;> rfl) | (apply p_fieldAddrB <;> rfl) | fail); (case hd => rfl)) | (apply v_read; (case hop => first | (apply r_load1; rfl; (apply Cell.own; (case h => (repeat (first | exact List.Mem.head _ | apply List.mem_append_right))); rfl)) | fail); (case hd => rfl)) | fail)
    refine v_call (μ1 := []) (μ2 := _) rfl (rnum_s _ c.seq (by omega)) (List.Perm.refl _) rfl ?_
    rintro r2 G2 μ2 - ⟨rfl, hg2⟩
    refine v_frz μ2 (by repeat (first | exact PickA.here _ | fail)) ?_
    intro H2 hle2 hG2
    have hs2 : Sl H2 1 (IntR .u8) r2 (vbytes c.seq) := hg2.ints hG2 (fun x hx => vbytes_wf (by omega) x hx)
    have hsrc2 := fun μ => Src.ints (μ := μ) hs2
    obtain ⟨A2, c2, rfl, -, -⟩ := hg2.shape
    repeat' (fail)
    refine v_append (e := 5) (sz := 1) (zero := .int .u8 0) rfl (by omega) rfl rfl ho1 (PickA.perm (by repeat (first | exact PickA.here _ | fail))) (hsrc2 _) (allOne_ints _) (by (try simp only [List.length_append, sbytes_length]); omega) (by simp only [maxLen]; (try simp only [List.length_append, sbytes_length]); omega) rfl fun v2 ν2 ho2 => ?_
    rw [← List.map_append, ← List.length_append] at ho2
    repeat' (first | apply v_region | apply v_nil | (apply v_pure; (case hop => first | (apply p_move <;> rfl) | (apply p_assign <;> rfl) | (apply p_fieldAddrB <;> rfl) | fail); (case hd => rfl)) | (apply v_read; (case hop => first | (apply r_load1; rfl; (apply Cell.own; (case h => (repeat (first | exact List.Mem.head _ | apply List.mem_append_right))); rfl)) | fail); (case hd => rfl)) | fail)
    refine v_call (μ1 := []) (μ2 := _) rfl (rtext_s _ c.key (by omega)) (List.Perm.refl _) rfl ?_
    rintro r3 G3 μ3 - ⟨rfl, hg3⟩
    refine v_frz μ3 (by repeat (first | exact PickA.here _ | fail)) ?_
    intro H3 hle3 hG3
    have hs3 : Sl H3 1 (IntR .u8) r3 (vbytes c.key.size ++ sbytes c.key) := hg3.ints hG3 (tbytes_wf c.key (by omega))
    have hsrc3 := fun μ => Src.ints (μ := μ) hs3
    obtain ⟨A3, c3, rfl, -, -⟩ := hg3.shape
    repeat' (fail)
    refine v_append (e := 5) (sz := 1) (zero := .int .u8 0) rfl (by omega) rfl rfl ho2 (PickA.perm (by repeat (first | exact PickA.here _ | fail))) (hsrc3 _) (allOne_ints _) (by (try simp only [List.length_append, sbytes_length]); omega) (by simp only [maxLen]; (try simp only [List.length_append, sbytes_length]); omega) rfl fun v3 ν3 ho3 => ?_
    rw [← List.map_append, ← List.length_append] at ho3
    repeat' (first | apply v_seq | apply v_region | apply v_nil | apply v_skip | (apply v_pass; (case hg => rfl); (case hn => rfl); (case hd => rfl)) | (apply v_pure; (case hop => first | (apply p_move <;> rfl) | (apply p_assign <;> rfl) | (apply p_pickT <;> rfl) | (apply p_pickF <;> rfl) | (apply p_not <;> rfl) | (apply p_fieldAddrB <;> rfl) | fail); (case hd => rfl)) | (apply v_condT; (case hc => rfl)) | (apply v_condF; (case hc => rfl)) | (apply v_read; (case hop => first | (apply r_load1; rfl; (apply Cell.own; (case h => (repeat (first | exact List.Mem.head _ | apply List.mem_append_right))); rfl)) | fail); (case hd => rfl)) | fail)
    refine v_call (μ1 := []) (μ2 := _) rfl (rtext_s _ c.val (by omega)) (List.Perm.refl _) rfl ?_
    rintro r4 G4 μ4 - ⟨rfl, hg4⟩
    refine v_frz μ4 (by repeat (first | exact PickA.here _ | fail)) ?_
    intro H4 hle4 hG4
    have hs4 : Sl H4 1 (IntR .u8) r4 (vbytes c.val.size ++ sbytes c.val) := hg4.ints hG4 (tbytes_wf c.val (by omega))
    have hsrc4 := fun μ => Src.ints (μ := μ) hs4
    obtain ⟨A4, c4, rfl, -, -⟩ := hg4.shape
    repeat' (fail)
    refine v_append (e := 5) (sz := 1) (zero := .int .u8 0) rfl (by omega) rfl rfl ho3 (PickA.perm (by repeat (first | exact PickA.here _ | fail))) (hsrc4 _) (allOne_ints _) (by (try simp only [List.length_append, sbytes_length]); omega) (by simp only [maxLen]; (try simp only [List.length_append, sbytes_length]); omega) rfl fun v4 ν4 ho4 => ?_
    rw [← List.map_append, ← List.length_append] at ho4
    repeat' (first | apply v_seq | apply v_region | apply v_nil | (apply v_pass; (case hg => rfl); (case hn => rfl); (case hd => rfl)) | (apply v_pure; (case hop => first | (apply p_move <;> rfl) | (apply p_assign <;> rfl) | (apply p_pickT <;> rfl) | (apply p_fieldAddrB <;> rfl) | fail); (case hd => rfl)) | (apply v_condT; (case hc => rfl)) | (apply v_read; (case hop => first | (apply r_load1; rfl; (apply Cell.own; (case h => (repeat (first | exact List.Mem.head _ | apply List.mem_append_right))); rfl)) | fail); (case hd => rfl)) | fail)
    refine v_call (μ1 := []) (μ2 := _) rfl (rnum_s _ c.node (by omega)) (List.Perm.refl _) rfl ?_
    rintro r5 G5 μ5 - ⟨rfl, hg5⟩
    refine v_frz μ5 (by repeat (first | exact PickA.here _ | fail)) ?_
    intro H5 hle5 hG5
    have hs5 : Sl H5 1 (IntR .u8) r5 (vbytes c.node) := hg5.ints hG5 (fun x hx => vbytes_wf (by omega) x hx)
    have hsrc5 := fun μ => Src.ints (μ := μ) hs5
    obtain ⟨A5, c5, rfl, -, -⟩ := hg5.shape
    repeat' (fail)
    refine v_append (e := 5) (sz := 1) (zero := .int .u8 0) rfl (by omega) rfl rfl ho4 (PickA.perm (by repeat (first | exact PickA.here _ | fail))) (hsrc5 _) (allOne_ints _) (by (try simp only [List.length_append, sbytes_length]); omega) (by simp only [maxLen]; (try simp only [List.length_append, sbytes_length]); omega) rfl fun v5 ν5 ho5 => ?_
    rw [← List.map_append, ← List.length_append] at ho5
    repeat' (first | apply v_seq | apply v_region | apply v_nil | (apply v_pure; (case hop => first | (apply p_move <;> rfl) | (apply p_assign <;> rfl) | fail); (case hd => rfl)) | fail)
    have el : vbytes c.kind ++ putW (wantB 1 c.kind) c 6 = vbytes c.kind ++ (vbytes c.client) ++ (vbytes c.seq) ++ (vbytes c.key.size ++ sbytes c.key) ++ (vbytes c.val.size ++ sbytes c.val) ++ (vbytes c.node) := by
      simp [putW, wantB, hasOf, pbytes, isNum, Cm.num, Cm.txt]
    rw [el]
    refine v_ret ν5 (outsA1 rfl rfl) (by repeat (first | exact List.sublist_append_left _ _ | fail)) ?_
    refine ⟨fun b o h => hle5 b o (hle4 b o (hle3 b o (hle2 b o (hle1 b o (h))))), ?_⟩
    simpa using ho5
  · have ow : decide (2 ≤ c.kind ∧ c.kind ≤ 5) = true := by rw [decide_eq_true_iff]; omega
    have om : decide (c.kind = 7 ∨ c.kind = 8) = false := by rw [decide_eq_false_iff_not]; omega
    simp only [ow, om] at qw qm
    repeat' (first | apply v_seq | apply v_region | apply v_nil | (apply v_take; (case hg => rfl)) | (apply v_pure; (case hop => first | (apply p_move <;> rfl) | (apply p_eq <;> rfl) | (apply p_assign <;> rfl) | (apply p_pickF <;> rfl) | (apply p_fieldAddrB <;> rfl) | fail); (case hd => rfl)) | (apply v_condT; (case hc => rfl)) | (apply v_guardB; (case h1 => rfl); (case h2 => rfl); all_goals (intro h; (try simp only [reduceCtorEq, dec_true, dec_false, decide_eq_true_eq, decide_eq_false_iff_not, Bool.not_eq_true', Bool.not_eq_false', Option.isNone_iff_eq_none, beq_true, beq_false, beq_iff_eq, beq_eq_false_iff_ne, ne_eq, decide_eq_decide, Bool.not_eq_true, Bool.not_eq_false, Decidable.not_not] at h); first | (exfalso; omega) | skip)) | (apply v_callJ (hs := qw _); (case ha => rfl); (case hd => rfl)) | (apply v_read; (case hop => first | (apply r_load1; rfl; (apply Cell.own; (case h => (repeat (first | exact List.Mem.head _ | apply List.mem_append_right))); rfl)) | fail); (case hd => rfl)) | fail)
    refine v_call (μ1 := []) (μ2 := _) rfl (rnum_s _ c.client (by omega)) (List.Perm.refl _) rfl ?_
    rintro r1 G1 μ1 - ⟨rfl, hg1⟩
    refine v_frz μ1 (by repeat (first | exact PickA.here _ | fail)) ?_
    intro H1 hle1 hG1
    have hs1 : Sl H1 1 (IntR .u8) r1 (vbytes c.client) := hg1.ints hG1 (fun x hx => vbytes_wf (by omega) x hx)
    have hsrc1 := fun μ => Src.ints (μ := μ) hs1
    obtain ⟨A1, c1, rfl, -, -⟩ := hg1.shape
    repeat' (fail)
    refine v_append (e := 5) (sz := 1) (zero := .int .u8 0) rfl (by omega) rfl rfl ho0 (PickA.perm (by repeat (first | exact PickA.here _ | fail))) (hsrc1 _) (allOne_ints _) (by (try simp only [List.length_append, sbytes_length]); omega) (by simp only [maxLen]; (try simp only [List.length_append, sbytes_length]); omega) rfl fun v1 ν1 ho1 => ?_
    rw [← List.map_append, ← List.length_append] at ho1
    repeat' (first | apply v_seq | apply v_region | apply v_nil | (apply v_pure; (case hop => first | (apply p_move <;> rfl) | (apply p_assign <;> rfl) | (apply p_fieldAddrB <;> rfl) | fail); (case hd => rfl)) | (apply v_read; (case hop => first | (apply r_load1; rfl; (apply Cell.own; (case h => (repeat (first | exact List.Mem.head _ | apply List.mem_append_right))); rfl)) | fail); (case hd => rfl)) | fail)
    refine v_call (μ1 := []) (μ2 := _) rfl (rnum_s _ c.seq (by omega)) (List.Perm.refl _) rfl ?_
    rintro r2 G2 μ2 - ⟨rfl, hg2⟩
    refine v_frz μ2 (by repeat (first | exact PickA.here _ | fail)) ?_
    intro H2 hle2 hG2
    have hs2 : Sl H2 1 (IntR .u8) r2 (vbytes c.seq) := hg2.ints hG2 (fun x hx => vbytes_wf (by omega) x hx)
    have hsrc2 := fun μ => Src.ints (μ := μ) hs2
    obtain ⟨A2, c2, rfl, -, -⟩ := hg2.shape
    repeat' (fail)
    refine v_append (e := 5) (sz := 1) (zero := .int .u8 0) rfl (by omega) rfl rfl ho1 (PickA.perm (by repeat (first | exact PickA.here _ | fail))) (hsrc2 _) (allOne_ints _) (by (try simp only [List.length_append, sbytes_length]); omega) (by simp only [maxLen]; (try simp only [List.length_append, sbytes_length]); omega) rfl fun v2 ν2 ho2 => ?_
    rw [← List.map_append, ← List.length_append] at ho2
    repeat' (first | apply v_region | apply v_nil | (apply v_pure; (case hop => first | (apply p_move <;> rfl) | (apply p_assign <;> rfl) | (apply p_fieldAddrB <;> rfl) | fail); (case hd => rfl)) | (apply v_read; (case hop => first | (apply r_load1; rfl; (apply Cell.own; (case h => (repeat (first | exact List.Mem.head _ | apply List.mem_append_right))); rfl)) | fail); (case hd => rfl)) | fail)
    refine v_call (μ1 := []) (μ2 := _) rfl (rtext_s _ c.key (by omega)) (List.Perm.refl _) rfl ?_
    rintro r3 G3 μ3 - ⟨rfl, hg3⟩
    refine v_frz μ3 (by repeat (first | exact PickA.here _ | fail)) ?_
    intro H3 hle3 hG3
    have hs3 : Sl H3 1 (IntR .u8) r3 (vbytes c.key.size ++ sbytes c.key) := hg3.ints hG3 (tbytes_wf c.key (by omega))
    have hsrc3 := fun μ => Src.ints (μ := μ) hs3
    obtain ⟨A3, c3, rfl, -, -⟩ := hg3.shape
    repeat' (fail)
    refine v_append (e := 5) (sz := 1) (zero := .int .u8 0) rfl (by omega) rfl rfl ho2 (PickA.perm (by repeat (first | exact PickA.here _ | fail))) (hsrc3 _) (allOne_ints _) (by (try simp only [List.length_append, sbytes_length]); omega) (by simp only [maxLen]; (try simp only [List.length_append, sbytes_length]); omega) rfl fun v3 ν3 ho3 => ?_
    rw [← List.map_append, ← List.length_append] at ho3
    repeat' (first | apply v_seq | apply v_region | apply v_nil | apply v_skip | (apply v_take; (case hg => rfl)) | (apply v_pass; (case hg => rfl); (case hn => rfl); (case hd => rfl)) | (apply v_pure; (case hop => first | (apply p_move <;> rfl) | (apply p_eq <;> rfl) | (apply p_assign <;> rfl) | (apply p_pickT <;> rfl) | (apply p_pickF <;> rfl) | (apply p_not <;> rfl) | (apply p_fieldAddrB <;> rfl) | fail); (case hd => rfl)) | (apply v_condT; (case hc => rfl)) | (apply v_cond; (case hc => rfl); all_goals (intro h; (try simp only [reduceCtorEq, dec_true, dec_false, decide_eq_true_eq, decide_eq_false_iff_not, Bool.not_eq_true', Bool.not_eq_false', Option.isNone_iff_eq_none, beq_true, beq_false, beq_iff_eq, beq_eq_false_iff_ne, ne_eq, decide_eq_decide, Bool.not_eq_true, Bool.not_eq_false, Decidable.not_not] at h); first | (exfalso; omega) | skip)) | (apply v_guardB; (case h1 => rfl); (case h2 => rfl); all_goals (intro h; (try simp only [reduceCtorEq, dec_true, dec_false, decide_eq_true_eq, decide_eq_false_iff_not, Bool.not_eq_true', Bool.not_eq_false', Option.isNone_iff_eq_none, beq_true, beq_false, beq_iff_eq, beq_eq_false_iff_ne, ne_eq, decide_eq_decide, Bool.not_eq_true, Bool.not_eq_false, Decidable.not_not] at h); first | (exfalso; omega) | skip)) | (apply v_read; (case hop => first | (apply r_load1; rfl; (apply Cell.own; (case h => (repeat (first | exact List.Mem.head _ | apply List.mem_append_right))); rfl)) | fail); (case hd => rfl)) | fail)
    refine v_call (μ1 := []) (μ2 := _) rfl (rtext_s _ c.val (by omega)) (List.Perm.refl _) rfl ?_
    rintro r4 G4 μ4 - ⟨rfl, hg4⟩
    refine v_frz μ4 (by repeat (first | exact PickA.here _ | fail)) ?_
    intro H4 hle4 hG4
    have hs4 : Sl H4 1 (IntR .u8) r4 (vbytes c.val.size ++ sbytes c.val) := hg4.ints hG4 (tbytes_wf c.val (by omega))
    have hsrc4 := fun μ => Src.ints (μ := μ) hs4
    obtain ⟨A4, c4, rfl, -, -⟩ := hg4.shape
    repeat' (fail)
    refine v_append (e := 5) (sz := 1) (zero := .int .u8 0) rfl (by omega) rfl rfl ho3 (PickA.perm (by repeat (first | exact PickA.here _ | fail))) (hsrc4 _) (allOne_ints _) (by (try simp only [List.length_append, sbytes_length]); omega) (by simp only [maxLen]; (try simp only [List.length_append, sbytes_length]); omega) rfl fun v4 ν4 ho4 => ?_
    rw [← List.map_append, ← List.length_append] at ho4
    repeat' (first | apply v_seq | apply v_region | apply v_nil | apply v_skip | (apply v_take; (case hg => rfl)) | (apply v_pure; (case hop => first | (apply p_move <;> rfl) | (apply p_assign <;> rfl) | (apply p_pickF <;> rfl) | (apply p_fieldAddrB <;> rfl) | fail); (case hd => rfl)) | (apply v_condF; (case hc => rfl)) | (apply v_guardB; (case h1 => rfl); (case h2 => rfl); all_goals (intro h; (try simp only [reduceCtorEq, dec_true, dec_false, decide_eq_true_eq, decide_eq_false_iff_not, Bool.not_eq_true', Bool.not_eq_false', Option.isNone_iff_eq_none, beq_true, beq_false, beq_iff_eq, beq_eq_false_iff_ne, ne_eq, decide_eq_decide, Bool.not_eq_true, Bool.not_eq_false, Decidable.not_not] at h); first | (exfalso; omega) | skip)) | (apply v_callJ (hs := qm _); (case ha => rfl); (case hd => rfl)) | (apply v_read; (case hop => first | (apply r_load1; rfl; (apply Cell.own; (case h => (repeat (first | exact List.Mem.head _ | apply List.mem_append_right))); rfl)) | fail); (case hd => rfl)) | fail)
    have el : vbytes c.kind ++ putW (wantB v c.kind) c 6 = vbytes c.kind ++ (vbytes c.client) ++ (vbytes c.seq) ++ (vbytes c.key.size ++ sbytes c.key) ++ (vbytes c.val.size ++ sbytes c.val) := by
      rw [want2 hq.1, hq.2]; simp [cmdFields, putW, hasOf, pbytes, isNum, Cm.num, Cm.txt, band_0_1, band_0_2, band_0_4, band_0_8, band_0_16, band_3_1, band_3_2, band_3_4, band_3_8, band_3_16, band_11_1, band_11_2, band_11_4, band_11_8, band_11_16, band_15_1, band_15_2, band_15_4, band_15_8, band_15_16, band_16_1, band_16_2, band_16_4, band_16_8, band_16_16]
    rw [el]
    refine v_ret ν4 (outsA1 rfl rfl) (by repeat (first | exact List.sublist_append_left _ _ | fail)) ?_
    refine ⟨fun b o h => hle4 b o (hle3 b o (hle2 b o (hle1 b o (h)))), ?_⟩
    simpa using ho4
  · have ow : decide (2 ≤ c.kind ∧ c.kind ≤ 5) = true := by rw [decide_eq_true_iff]; omega
    have om : decide (c.kind = 7 ∨ c.kind = 8) = false := by rw [decide_eq_false_iff_not]; omega
    simp only [ow, om] at qw qm
    repeat' (first | apply v_seq | apply v_region | apply v_nil | (apply v_take; (case hg => rfl)) | (apply v_pure; (case hop => first | (apply p_move <;> rfl) | (apply p_eq <;> rfl) | (apply p_assign <;> rfl) | (apply p_pickF <;> rfl) | (apply p_fieldAddrB <;> rfl) | fail); (case hd => rfl)) | (apply v_condT; (case hc => rfl)) | (apply v_guardB; (case h1 => rfl); (case h2 => rfl); all_goals (intro h; (try simp only [reduceCtorEq, dec_true, dec_false, decide_eq_true_eq, decide_eq_false_iff_not, Bool.not_eq_true', Bool.not_eq_false', Option.isNone_iff_eq_none, beq_true, beq_false, beq_iff_eq, beq_eq_false_iff_ne, ne_eq, decide_eq_decide, Bool.not_eq_true, Bool.not_eq_false, Decidable.not_not] at h); first | (exfalso; omega) | skip)) | (apply v_callJ (hs := qw _); (case ha => rfl); (case hd => rfl)) | (apply v_read; (case hop => first | (apply r_load1; rfl; (apply Cell.own; (case h => (repeat (first | exact List.Mem.head _ | apply List.mem_append_right))); rfl)) | fail); (case hd => rfl)) | fail)
    refine v_call (μ1 := []) (μ2 := _) rfl (rnum_s _ c.client (by omega)) (List.Perm.refl _) rfl ?_
    rintro r1 G1 μ1 - ⟨rfl, hg1⟩
    refine v_frz μ1 (by repeat (first | exact PickA.here _ | fail)) ?_
    intro H1 hle1 hG1
    have hs1 : Sl H1 1 (IntR .u8) r1 (vbytes c.client) := hg1.ints hG1 (fun x hx => vbytes_wf (by omega) x hx)
    have hsrc1 := fun μ => Src.ints (μ := μ) hs1
    obtain ⟨A1, c1, rfl, -, -⟩ := hg1.shape
    repeat' (fail)
    refine v_append (e := 5) (sz := 1) (zero := .int .u8 0) rfl (by omega) rfl rfl ho0 (PickA.perm (by repeat (first | exact PickA.here _ | fail))) (hsrc1 _) (allOne_ints _) (by (try simp only [List.length_append, sbytes_length]); omega) (by simp only [maxLen]; (try simp only [List.length_append, sbytes_length]); omega) rfl fun v1 ν1 ho1 => ?_
    rw [← List.map_append, ← List.length_append] at ho1
    repeat' (first | apply v_seq | apply v_region | apply v_nil | (apply v_pure; (case hop => first | (apply p_move <;> rfl) | (apply p_assign <;> rfl) | (apply p_fieldAddrB <;> rfl) | fail); (case hd => rfl)) | (apply v_read; (case hop => first | (apply r_load1; rfl; (apply Cell.own; (case h => (repeat (first | exact List.Mem.head _ | apply List.mem_append_right))); rfl)) | fail); (case hd => rfl)) | fail)
    refine v_call (μ1 := []) (μ2 := _) rfl (rnum_s _ c.seq (by omega)) (List.Perm.refl _) rfl ?_
    rintro r2 G2 μ2 - ⟨rfl, hg2⟩
    refine v_frz μ2 (by repeat (first | exact PickA.here _ | fail)) ?_
    intro H2 hle2 hG2
    have hs2 : Sl H2 1 (IntR .u8) r2 (vbytes c.seq) := hg2.ints hG2 (fun x hx => vbytes_wf (by omega) x hx)
    have hsrc2 := fun μ => Src.ints (μ := μ) hs2
    obtain ⟨A2, c2, rfl, -, -⟩ := hg2.shape
    repeat' (fail)
    refine v_append (e := 5) (sz := 1) (zero := .int .u8 0) rfl (by omega) rfl rfl ho1 (PickA.perm (by repeat (first | exact PickA.here _ | fail))) (hsrc2 _) (allOne_ints _) (by (try simp only [List.length_append, sbytes_length]); omega) (by simp only [maxLen]; (try simp only [List.length_append, sbytes_length]); omega) rfl fun v2 ν2 ho2 => ?_
    rw [← List.map_append, ← List.length_append] at ho2
    repeat' (first | apply v_region | apply v_nil | (apply v_pure; (case hop => first | (apply p_move <;> rfl) | (apply p_assign <;> rfl) | (apply p_fieldAddrB <;> rfl) | fail); (case hd => rfl)) | (apply v_read; (case hop => first | (apply r_load1; rfl; (apply Cell.own; (case h => (repeat (first | exact List.Mem.head _ | apply List.mem_append_right))); rfl)) | fail); (case hd => rfl)) | fail)
    refine v_call (μ1 := []) (μ2 := _) rfl (rtext_s _ c.key (by omega)) (List.Perm.refl _) rfl ?_
    rintro r3 G3 μ3 - ⟨rfl, hg3⟩
    refine v_frz μ3 (by repeat (first | exact PickA.here _ | fail)) ?_
    intro H3 hle3 hG3
    have hs3 : Sl H3 1 (IntR .u8) r3 (vbytes c.key.size ++ sbytes c.key) := hg3.ints hG3 (tbytes_wf c.key (by omega))
    have hsrc3 := fun μ => Src.ints (μ := μ) hs3
    obtain ⟨A3, c3, rfl, -, -⟩ := hg3.shape
    repeat' (fail)
    refine v_append (e := 5) (sz := 1) (zero := .int .u8 0) rfl (by omega) rfl rfl ho2 (PickA.perm (by repeat (first | exact PickA.here _ | fail))) (hsrc3 _) (allOne_ints _) (by (try simp only [List.length_append, sbytes_length]); omega) (by simp only [maxLen]; (try simp only [List.length_append, sbytes_length]); omega) rfl fun v3 ν3 ho3 => ?_
    rw [← List.map_append, ← List.length_append] at ho3
    repeat' (first | apply v_seq | apply v_region | apply v_nil | apply v_skip | (apply v_take; (case hg => rfl)) | (apply v_pure; (case hop => first | (apply p_move <;> rfl) | (apply p_eq <;> rfl) | (apply p_assign <;> rfl) | (apply p_pickT <;> rfl) | (apply p_pickF <;> rfl) | (apply p_not <;> rfl) | (apply p_fieldAddrB <;> rfl) | fail); (case hd => rfl)) | (apply v_condF; (case hc => rfl)) | (apply v_cond; (case hc => rfl); all_goals (intro h; (try simp only [reduceCtorEq, dec_true, dec_false, decide_eq_true_eq, decide_eq_false_iff_not, Bool.not_eq_true', Bool.not_eq_false', Option.isNone_iff_eq_none, beq_true, beq_false, beq_iff_eq, beq_eq_false_iff_ne, ne_eq, decide_eq_decide, Bool.not_eq_true, Bool.not_eq_false, Decidable.not_not] at h); first | (exfalso; omega) | skip)) | (apply v_guardB; (case h1 => rfl); (case h2 => rfl); all_goals (intro h; (try simp only [reduceCtorEq, dec_true, dec_false, decide_eq_true_eq, decide_eq_false_iff_not, Bool.not_eq_true', Bool.not_eq_false', Option.isNone_iff_eq_none, beq_true, beq_false, beq_iff_eq, beq_eq_false_iff_ne, ne_eq, decide_eq_decide, Bool.not_eq_true, Bool.not_eq_false, Decidable.not_not] at h); first | (exfalso; omega) | skip)) | (apply v_callJ (hs := qm _); (case ha => rfl); (case hd => rfl)) | (apply v_read; (case hop => first | (apply r_load1; rfl; (apply Cell.own; (case h => (repeat (first | exact List.Mem.head _ | apply List.mem_append_right))); rfl)) | fail); (case hd => rfl)) | fail)
    have el : vbytes c.kind ++ putW (wantB v c.kind) c 6 = vbytes c.kind ++ (vbytes c.client) ++ (vbytes c.seq) ++ (vbytes c.key.size ++ sbytes c.key) := by
      rw [want2 hq.1]
      obtain ⟨-, h | h⟩ := hq <;> rw [h] <;> simp [cmdFields, putW, hasOf, pbytes, isNum, Cm.num, Cm.txt, band_0_1, band_0_2, band_0_4, band_0_8, band_0_16, band_3_1, band_3_2, band_3_4, band_3_8, band_3_16, band_11_1, band_11_2, band_11_4, band_11_8, band_11_16, band_15_1, band_15_2, band_15_4, band_15_8, band_15_16, band_16_1, band_16_2, band_16_4, band_16_8, band_16_16]
    rw [el]
    refine v_ret ν3 (outsA1 rfl rfl) (by repeat (first | exact List.sublist_append_left _ _ | fail)) ?_
    refine ⟨fun b o h => hle3 b o (hle2 b o (hle1 b o (h))), ?_⟩
    simpa using ho3
  · have ow : decide (2 ≤ c.kind ∧ c.kind ≤ 5) = true := by rw [decide_eq_true_iff]; omega
    have om : decide (c.kind = 7 ∨ c.kind = 8) = false := by rw [decide_eq_false_iff_not]; omega
    simp only [ow, om] at qw qm
    repeat' (first | apply v_seq | apply v_region | apply v_nil | (apply v_take; (case hg => rfl)) | (apply v_pure; (case hop => first | (apply p_move <;> rfl) | (apply p_eq <;> rfl) | (apply p_assign <;> rfl) | (apply p_pickF <;> rfl) | (apply p_fieldAddrB <;> rfl) | fail); (case hd => rfl)) | (apply v_condT; (case hc => rfl)) | (apply v_guardB; (case h1 => rfl); (case h2 => rfl); all_goals (intro h; (try simp only [reduceCtorEq, dec_true, dec_false, decide_eq_true_eq, decide_eq_false_iff_not, Bool.not_eq_true', Bool.not_eq_false', Option.isNone_iff_eq_none, beq_true, beq_false, beq_iff_eq, beq_eq_false_iff_ne, ne_eq, decide_eq_decide, Bool.not_eq_true, Bool.not_eq_false, Decidable.not_not] at h); first | (exfalso; omega) | skip)) | (apply v_callJ (hs := qw _); (case ha => rfl); (case hd => rfl)) | (apply v_read; (case hop => first | (apply r_load1; rfl; (apply Cell.own; (case h => (repeat (first | exact List.Mem.head _ | apply List.mem_append_right))); rfl)) | fail); (case hd => rfl)) | fail)
    refine v_call (μ1 := []) (μ2 := _) rfl (rnum_s _ c.client (by omega)) (List.Perm.refl _) rfl ?_
    rintro r1 G1 μ1 - ⟨rfl, hg1⟩
    refine v_frz μ1 (by repeat (first | exact PickA.here _ | fail)) ?_
    intro H1 hle1 hG1
    have hs1 : Sl H1 1 (IntR .u8) r1 (vbytes c.client) := hg1.ints hG1 (fun x hx => vbytes_wf (by omega) x hx)
    have hsrc1 := fun μ => Src.ints (μ := μ) hs1
    obtain ⟨A1, c1, rfl, -, -⟩ := hg1.shape
    repeat' (fail)
    refine v_append (e := 5) (sz := 1) (zero := .int .u8 0) rfl (by omega) rfl rfl ho0 (PickA.perm (by repeat (first | exact PickA.here _ | fail))) (hsrc1 _) (allOne_ints _) (by (try simp only [List.length_append, sbytes_length]); omega) (by simp only [maxLen]; (try simp only [List.length_append, sbytes_length]); omega) rfl fun v1 ν1 ho1 => ?_
    rw [← List.map_append, ← List.length_append] at ho1
    repeat' (first | apply v_seq | apply v_region | apply v_nil | (apply v_pure; (case hop => first | (apply p_move <;> rfl) | (apply p_assign <;> rfl) | (apply p_fieldAddrB <;> rfl) | fail); (case hd => rfl)) | (apply v_read; (case hop => first | (apply r_load1; rfl; (apply Cell.own; (case h => (repeat (first | exact List.Mem.head _ | apply List.mem_append_right))); rfl)) | fail); (case hd => rfl)) | fail)
    refine v_call (μ1 := []) (μ2 := _) rfl (rnum_s _ c.seq (by omega)) (List.Perm.refl _) rfl ?_
    rintro r2 G2 μ2 - ⟨rfl, hg2⟩
    refine v_frz μ2 (by repeat (first | exact PickA.here _ | fail)) ?_
    intro H2 hle2 hG2
    have hs2 : Sl H2 1 (IntR .u8) r2 (vbytes c.seq) := hg2.ints hG2 (fun x hx => vbytes_wf (by omega) x hx)
    have hsrc2 := fun μ => Src.ints (μ := μ) hs2
    obtain ⟨A2, c2, rfl, -, -⟩ := hg2.shape
    repeat' (fail)
    refine v_append (e := 5) (sz := 1) (zero := .int .u8 0) rfl (by omega) rfl rfl ho1 (PickA.perm (by repeat (first | exact PickA.here _ | fail))) (hsrc2 _) (allOne_ints _) (by (try simp only [List.length_append, sbytes_length]); omega) (by simp only [maxLen]; (try simp only [List.length_append, sbytes_length]); omega) rfl fun v2 ν2 ho2 => ?_
    rw [← List.map_append, ← List.length_append] at ho2
    repeat' (first | apply v_region | apply v_nil | (apply v_pure; (case hop => first | (apply p_move <;> rfl) | (apply p_assign <;> rfl) | (apply p_fieldAddrB <;> rfl) | fail); (case hd => rfl)) | (apply v_read; (case hop => first | (apply r_load1; rfl; (apply Cell.own; (case h => (repeat (first | exact List.Mem.head _ | apply List.mem_append_right))); rfl)) | fail); (case hd => rfl)) | fail)
    refine v_call (μ1 := []) (μ2 := _) rfl (rtext_s _ c.key (by omega)) (List.Perm.refl _) rfl ?_
    rintro r3 G3 μ3 - ⟨rfl, hg3⟩
    refine v_frz μ3 (by repeat (first | exact PickA.here _ | fail)) ?_
    intro H3 hle3 hG3
    have hs3 : Sl H3 1 (IntR .u8) r3 (vbytes c.key.size ++ sbytes c.key) := hg3.ints hG3 (tbytes_wf c.key (by omega))
    have hsrc3 := fun μ => Src.ints (μ := μ) hs3
    obtain ⟨A3, c3, rfl, -, -⟩ := hg3.shape
    repeat' (fail)
    refine v_append (e := 5) (sz := 1) (zero := .int .u8 0) rfl (by omega) rfl rfl ho2 (PickA.perm (by repeat (first | exact PickA.here _ | fail))) (hsrc3 _) (allOne_ints _) (by (try simp only [List.length_append, sbytes_length]); omega) (by simp only [maxLen]; (try simp only [List.length_append, sbytes_length]); omega) rfl fun v3 ν3 ho3 => ?_
    rw [← List.map_append, ← List.length_append] at ho3
    repeat' (first | apply v_seq | apply v_region | apply v_nil | (apply v_take; (case hg => rfl)) | (apply v_pure; (case hop => first | (apply p_move <;> rfl) | (apply p_eq <;> rfl) | (apply p_assign <;> rfl) | (apply p_pickT <;> rfl) | (apply p_not <;> rfl) | (apply p_fieldAddrB <;> rfl) | fail); (case hd => rfl)) | (apply v_cond; (case hc => rfl); all_goals (intro h; (try simp only [reduceCtorEq, dec_true, dec_false, decide_eq_true_eq, decide_eq_false_iff_not, Bool.not_eq_true', Bool.not_eq_false', Option.isNone_iff_eq_none, beq_true, beq_false, beq_iff_eq, beq_eq_false_iff_ne, ne_eq, decide_eq_decide, Bool.not_eq_true, Bool.not_eq_false, Decidable.not_not] at h); first | (exfalso; omega) | skip)) | (apply v_guardB; (case h1 => rfl); (case h2 => rfl); all_goals (intro h; (try simp only [reduceCtorEq, dec_true, dec_false, decide_eq_true_eq, decide_eq_false_iff_not, Bool.not_eq_true', Bool.not_eq_false', Option.isNone_iff_eq_none, beq_true, beq_false, beq_iff_eq, beq_eq_false_iff_ne, ne_eq, decide_eq_decide, Bool.not_eq_true, Bool.not_eq_false, Decidable.not_not] at h); first | (exfalso; omega) | skip)) | (apply v_read; (case hop => first | (apply r_load1; rfl; (apply Cell.own; (case h => (repeat (first | exact List.Mem.head _ | apply List.mem_append_right))); rfl)) | fail); (case hd => rfl)) | fail)
    refine v_call (μ1 := []) (μ2 := _) rfl (rtext_s _ c.old (by omega)) (List.Perm.refl _) rfl ?_
    rintro r4 G4 μ4 - ⟨rfl, hg4⟩
    refine v_frz μ4 (by repeat (first | exact PickA.here _ | fail)) ?_
    intro H4 hle4 hG4
    have hs4 : Sl H4 1 (IntR .u8) r4 (vbytes c.old.size ++ sbytes c.old) := hg4.ints hG4 (tbytes_wf c.old (by omega))
    have hsrc4 := fun μ => Src.ints (μ := μ) hs4
    obtain ⟨A4, c4, rfl, -, -⟩ := hg4.shape
    repeat' (fail)
    refine v_append (e := 5) (sz := 1) (zero := .int .u8 0) rfl (by omega) rfl rfl ho3 (PickA.perm (by repeat (first | exact PickA.here _ | fail))) (hsrc4 _) (allOne_ints _) (by (try simp only [List.length_append, sbytes_length]); omega) (by simp only [maxLen]; (try simp only [List.length_append, sbytes_length]); omega) rfl fun v4 ν4 ho4 => ?_
    rw [← List.map_append, ← List.length_append] at ho4
    repeat' (first | apply v_seq | apply v_region | apply v_nil | (apply v_take; (case hg => rfl)) | (apply v_pure; (case hop => first | (apply p_move <;> rfl) | (apply p_eq <;> rfl) | (apply p_assign <;> rfl) | (apply p_pickF <;> rfl) | (apply p_fieldAddrB <;> rfl) | fail); (case hd => rfl)) | (apply v_cond; (case hc => rfl); all_goals (intro h; (try simp only [reduceCtorEq, dec_true, dec_false, decide_eq_true_eq, decide_eq_false_iff_not, Bool.not_eq_true', Bool.not_eq_false', Option.isNone_iff_eq_none, beq_true, beq_false, beq_iff_eq, beq_eq_false_iff_ne, ne_eq, decide_eq_decide, Bool.not_eq_true, Bool.not_eq_false, Decidable.not_not] at h); first | (exfalso; omega) | skip)) | (apply v_guardB; (case h1 => rfl); (case h2 => rfl); all_goals (intro h; (try simp only [reduceCtorEq, dec_true, dec_false, decide_eq_true_eq, decide_eq_false_iff_not, Bool.not_eq_true', Bool.not_eq_false', Option.isNone_iff_eq_none, beq_true, beq_false, beq_iff_eq, beq_eq_false_iff_ne, ne_eq, decide_eq_decide, Bool.not_eq_true, Bool.not_eq_false, Decidable.not_not] at h); first | (exfalso; omega) | skip)) | (apply v_read; (case hop => first | (apply r_load1; rfl; (apply Cell.own; (case h => (repeat (first | exact List.Mem.head _ | apply List.mem_append_right))); rfl)) | fail); (case hd => rfl)) | fail)
    refine v_call (μ1 := []) (μ2 := _) rfl (rtext_s _ c.val (by omega)) (List.Perm.refl _) rfl ?_
    rintro r5 G5 μ5 - ⟨rfl, hg5⟩
    refine v_frz μ5 (by repeat (first | exact PickA.here _ | fail)) ?_
    intro H5 hle5 hG5
    have hs5 : Sl H5 1 (IntR .u8) r5 (vbytes c.val.size ++ sbytes c.val) := hg5.ints hG5 (tbytes_wf c.val (by omega))
    have hsrc5 := fun μ => Src.ints (μ := μ) hs5
    obtain ⟨A5, c5, rfl, -, -⟩ := hg5.shape
    repeat' (fail)
    refine v_append (e := 5) (sz := 1) (zero := .int .u8 0) rfl (by omega) rfl rfl ho4 (PickA.perm (by repeat (first | exact PickA.here _ | fail))) (hsrc5 _) (allOne_ints _) (by (try simp only [List.length_append, sbytes_length]); omega) (by simp only [maxLen]; (try simp only [List.length_append, sbytes_length]); omega) rfl fun v5 ν5 ho5 => ?_
    rw [← List.map_append, ← List.length_append] at ho5
    repeat' (first | apply v_seq | apply v_region | apply v_nil | apply v_skip | (apply v_take; (case hg => rfl)) | (apply v_pure; (case hop => first | (apply p_move <;> rfl) | (apply p_assign <;> rfl) | (apply p_pickF <;> rfl) | (apply p_fieldAddrB <;> rfl) | fail); (case hd => rfl)) | (apply v_condF; (case hc => rfl)) | (apply v_guardB; (case h1 => rfl); (case h2 => rfl); all_goals (intro h; (try simp only [reduceCtorEq, dec_true, dec_false, decide_eq_true_eq, decide_eq_false_iff_not, Bool.not_eq_true', Bool.not_eq_false', Option.isNone_iff_eq_none, beq_true, beq_false, beq_iff_eq, beq_eq_false_iff_ne, ne_eq, decide_eq_decide, Bool.not_eq_true, Bool.not_eq_false, Decidable.not_not] at h); first | (exfalso; omega) | skip)) | (apply v_callJ (hs := qm _); (case ha => rfl); (case hd => rfl)) | (apply v_read; (case hop => first | (apply r_load1; rfl; (apply Cell.own; (case h => (repeat (first | exact List.Mem.head _ | apply List.mem_append_right))); rfl)) | fail); (case hd => rfl)) | fail)
    have el : vbytes c.kind ++ putW (wantB v c.kind) c 6 = vbytes c.kind ++ (vbytes c.client) ++ (vbytes c.seq) ++ (vbytes c.key.size ++ sbytes c.key) ++ (vbytes c.old.size ++ sbytes c.old) ++ (vbytes c.val.size ++ sbytes c.val) := by
      rw [want2 hq.1, hq.2]; simp [cmdFields, putW, hasOf, pbytes, isNum, Cm.num, Cm.txt, band_0_1, band_0_2, band_0_4, band_0_8, band_0_16, band_3_1, band_3_2, band_3_4, band_3_8, band_3_16, band_11_1, band_11_2, band_11_4, band_11_8, band_11_16, band_15_1, band_15_2, band_15_4, band_15_8, band_15_16, band_16_1, band_16_2, band_16_4, band_16_8, band_16_16]
    rw [el]
    refine v_ret ν5 (outsA1 rfl rfl) (by repeat (first | exact List.sublist_append_left _ _ | fail)) ?_
    refine ⟨fun b o h => hle5 b o (hle4 b o (hle3 b o (hle2 b o (hle1 b o (h))))), ?_⟩
    simpa using ho5
  · have ow : decide (2 ≤ c.kind ∧ c.kind ≤ 5) = false := by rw [decide_eq_false_iff_not]; omega
    have om : decide (c.kind = 7 ∨ c.kind = 8) = true := by rw [decide_eq_true_iff]; omega
    simp only [ow, om] at qw qm
    repeat' (first | apply v_seq | apply v_region | apply v_nil | apply v_skip | (apply v_take; (case hg => rfl)) | (apply v_pure; (case hop => first | (apply p_move <;> rfl) | (apply p_eq <;> rfl) | (apply p_assign <;> rfl) | (apply p_pickT <;> rfl) | (apply p_pickF <;> rfl) | (apply p_not <;> rfl) | (apply p_fieldAddrB <;> rfl) | fail); (case hd => rfl)) | (apply v_condT; (case hc => rfl)) | (apply v_condF; (case hc => rfl)) | (apply v_cond; (case hc => rfl); all_goals (intro h; (try simp only [reduceCtorEq, dec_true, dec_false, decide_eq_true_eq, decide_eq_false_iff_not, Bool.not_eq_true', Bool.not_eq_false', Option.isNone_iff_eq_none, beq_true, beq_false, beq_iff_eq, beq_eq_false_iff_ne, ne_eq, decide_eq_decide, Bool.not_eq_true, Bool.not_eq_false, Decidable.not_not] at h); first | (exfalso; omega) | skip)) | (apply v_guardB; (case h1 => rfl); (case h2 => rfl); all_goals (intro h; (try simp only [reduceCtorEq, dec_true, dec_false, decide_eq_true_eq, decide_eq_false_iff_not, Bool.not_eq_true', Bool.not_eq_false', Option.isNone_iff_eq_none, beq_true, beq_false, beq_iff_eq, beq_eq_false_iff_ne, ne_eq, decide_eq_decide, Bool.not_eq_true, Bool.not_eq_false, Decidable.not_not] at h); first | (exfalso; omega) | skip)) | (apply v_callJ (hs := qw _); (case ha => rfl); (case hd => rfl)) | (apply v_callJ (hs := qm _); (case ha => rfl); (case hd => rfl)) | (apply v_read; (case hop => first | (apply r_load1; rfl; (apply Cell.own; (case h => (repeat (first | exact List.Mem.head _ | apply List.mem_append_right))); rfl)) | fail); (case hd => rfl)) | fail)
    refine v_call (μ1 := []) (μ2 := _) rfl (rnum_s _ c.node (by omega)) (List.Perm.refl _) rfl ?_
    rintro r1 G1 μ1 - ⟨rfl, hg1⟩
    refine v_frz μ1 (by repeat (first | exact PickA.here _ | fail)) ?_
    intro H1 hle1 hG1
    have hs1 : Sl H1 1 (IntR .u8) r1 (vbytes c.node) := hg1.ints hG1 (fun x hx => vbytes_wf (by omega) x hx)
    have hsrc1 := fun μ => Src.ints (μ := μ) hs1
    obtain ⟨A1, c1, rfl, -, -⟩ := hg1.shape
    repeat' (fail)
    refine v_append (e := 5) (sz := 1) (zero := .int .u8 0) rfl (by omega) rfl rfl ho0 (PickA.perm (by repeat (first | exact PickA.here _ | fail))) (hsrc1 _) (allOne_ints _) (by (try simp only [List.length_append, sbytes_length]); omega) (by simp only [maxLen]; (try simp only [List.length_append, sbytes_length]); omega) rfl fun v1 ν1 ho1 => ?_
    rw [← List.map_append, ← List.length_append] at ho1
    repeat' (first | apply v_seq | apply v_region | apply v_nil | (apply v_pure; (case hop => first | (apply p_move <;> rfl) | (apply p_assign <;> rfl) | fail); (case hd => rfl)) | fail)
    have el : vbytes c.kind ++ putW (wantB v c.kind) c 6 = vbytes c.kind ++ (vbytes c.node) := by
      rw [want2 hq.1]
      obtain ⟨-, h | h⟩ := hq <;> rw [h] <;> simp [cmdFields, putW, hasOf, pbytes, isNum, Cm.num, Cm.txt, band_0_1, band_0_2, band_0_4, band_0_8, band_0_16, band_3_1, band_3_2, band_3_4, band_3_8, band_3_16, band_11_1, band_11_2, band_11_4, band_11_8, band_11_16, band_15_1, band_15_2, band_15_4, band_15_8, band_15_16, band_16_1, band_16_2, band_16_4, band_16_8, band_16_16]
    rw [el]
    refine v_ret ν1 (outsA1 rfl rfl) (by repeat (first | exact List.sublist_append_left _ _ | fail)) ?_
    refine ⟨fun b o h => hle1 b o (h), ?_⟩
    simpa using ho1
  · have ow : decide (2 ≤ c.kind ∧ c.kind ≤ 5) = false := by rw [decide_eq_false_iff_not]; omega
    have om : decide (c.kind = 7 ∨ c.kind = 8) = false := by rw [decide_eq_false_iff_not]; omega
    simp only [ow, om] at qw qm
    repeat' (first | apply v_seq | apply v_region | apply v_nil | apply v_skip | (apply v_take; (case hg => rfl)) | (apply v_pure; (case hop => first | (apply p_move <;> rfl) | (apply p_eq <;> rfl) | (apply p_assign <;> rfl) | (apply p_pickT <;> rfl) | (apply p_pickF <;> rfl) | (apply p_not <;> rfl) | (apply p_fieldAddrB <;> rfl) | fail); (case hd => rfl)) | (apply v_condF; (case hc => rfl)) | (apply v_cond; (case hc => rfl); all_goals (intro h; (try simp only [reduceCtorEq, dec_true, dec_false, decide_eq_true_eq, decide_eq_false_iff_not, Bool.not_eq_true', Bool.not_eq_false', Option.isNone_iff_eq_none, beq_true, beq_false, beq_iff_eq, beq_eq_false_iff_ne, ne_eq, decide_eq_decide, Bool.not_eq_true, Bool.not_eq_false, Decidable.not_not] at h); first | (exfalso; omega) | skip)) | (apply v_guardB; (case h1 => rfl); (case h2 => rfl); all_goals (intro h; (try simp only [reduceCtorEq, dec_true, dec_false, decide_eq_true_eq, decide_eq_false_iff_not, Bool.not_eq_true', Bool.not_eq_false', Option.isNone_iff_eq_none, beq_true, beq_false, beq_iff_eq, beq_eq_false_iff_ne, ne_eq, decide_eq_decide, Bool.not_eq_true, Bool.not_eq_false, Decidable.not_not] at h); first | (exfalso; omega) | skip)) | (apply v_callJ (hs := qw _); (case ha => rfl); (case hd => rfl)) | (apply v_callJ (hs := qm _); (case ha => rfl); (case hd => rfl)) | (apply v_read; (case hop => first | (apply r_load1; rfl; (apply Cell.own; (case h => (repeat (first | exact List.Mem.head _ | apply List.mem_append_right))); rfl)) | fail); (case hd => rfl)) | fail)
    have el : vbytes c.kind ++ putW (wantB v c.kind) c 6 = vbytes c.kind := by
      rw [want2 hq.1]
      have e0 : (cmdFields c.kind).1 = 0 := by unfold cmdFields; (repeat' split) <;> first | rfl | (exfalso; omega)
      simp [e0, putW, hasOf, band_0_1, band_0_2, band_0_4, band_0_8, band_0_16, band_3_1, band_3_2, band_3_4, band_3_8, band_3_16, band_11_1, band_11_2, band_11_4, band_11_8, band_11_16, band_15_1, band_15_2, band_15_4, band_15_8, band_15_16, band_16_1, band_16_2, band_16_4, band_16_8, band_16_16]
    rw [el]
    refine v_ret ν0 (outsA1 rfl rfl) (by repeat (first | exact List.sublist_append_left _ _ | fail)) ?_
    refine ⟨GH.le_refl _, ?_⟩
    simpa using ho0
theorem rcmd_s (G : GH) (c : Cm) (hc : c.ok) (hk : c.key.size ≤ 1000) (hv : c.val.size ≤ 1000) (ho : c.old.size ≤ 1000) : Con Tryd.prog 60 #[.int .i64 1, .agg c.cells.toArray] G [] (fun r G' μ' => GH.le G G' ∧ Grow 5 1 r (vbytes c.kind ++ putL c 6).length ((vbytes c.kind ++ putL c 6).map (.int .u8 ·)) μ') := rcmdV_s G 1 c hc hk hv ho
end Go.Proofs.YtnoiahlpmgbhfaaDoor
/-
  recone (layer 16), the thirteenth part: the bytes of a record, by the reference.
-/
set_option linter.unusedSimpArgs false
set_option linter.unusedVariables false
namespace Go.Proofs.YtnoiahlpmgbhfaaDoor
open Go.Vx Go.ChangeShapes Go.WideShapes Go.ChangeAt Go.RowKit
theorem memwf {a b : List Int} (ha : ∀ x ∈ a, (Lit.int .u8 x).wf = true) (hb : ∀ x ∈ b, (Lit.int .u8 x).wf = true) : ∀ x ∈ a ++ b, (Lit.int .u8 x).wf = true := fun x hx => by
  rcases List.mem_append.1 hx with h | h
  · exact ha x h
  · exact hb x h
/-- No field is too long for the reference's bytes. -/
def Rc.fits (x : Rc) : Prop := x.cmd.key.size ≤ 1000 ∧ x.cmd.val.size ≤ 1000 ∧ x.cmd.old.size ≤ 1000 ∧ x.image.length ≤ 32780
theorem large_fits {x : Rc} (h : ¬ x.large) : x.fits := by
  unfold Rc.large at h
  unfold Rc.fits
  omega
theorem rrec_s {G : GH} {x : Rc} {xv : Value} (hx : RcV G x xv) (hc : x.cmd.ok) (hl : x.fits) (hw : x.small) (hk : 1 ≤ x.kind ∧ x.kind ≤ 4) : Con Tryd.prog 16 #[xv] G [] (fun r G' μ' => GH.le G G' ∧ Grow 5 1 r (encL x).length ((encL x).map (.int .u8 ·)) μ') := by
  have hcw : ∀ y ∈ vbytes x.cmd.kind ++ putL x.cmd 6, (Lit.int .u8 y).wf = true := by
    obtain ⟨hk1, hc1, hs1, -, -, -, hn1⟩ := hc
    simp [Lit.wf, IntKind.min, IntKind.max, IntKind.signed, IntKind.bits] at hk1 hc1 hs1 hn1
    unfold Rc.fits at hl
    have el : vbytes x.cmd.kind ++ vbytes x.cmd.client ++ vbytes x.cmd.seq ++ (vbytes x.cmd.key.size ++ sbytes x.cmd.key) ++ (vbytes x.cmd.val.size ++ sbytes x.cmd.val) ++ vbytes x.cmd.node = vbytes x.cmd.kind ++ putL x.cmd 6 := by
      simp [putL, putW, wantB, hasOf, pbytes, isNum, Cm.num, Cm.txt]
    rw [← el]
    exact memwf (memwf (memwf (memwf (memwf (vbytes_wf (by omega)) (vbytes_wf (by omega))) (vbytes_wf (by omega))) (tbytes_wf _ (by omega))) (tbytes_wf _ (by omega))) (vbytes_wf (by omega))
  have hcl := putL_len x.cmd (by unfold Rc.fits at hl; omega) (by unfold Rc.fits at hl; omega) (by unfold Rc.fits at hl; omega) 6
  unfold Rc.fits at hl
  obtain ⟨hw1, hw2, hw3, hw4⟩ := hw
  obtain ⟨iv, rfl, hi⟩ := hx
  have hL0 := (vbytes_len x.kind).1
  have hL1 := (vbytes_len x.round).1
  have hL2 := (vbytes_len x.node).1
  have hL3 := (vbytes_len x.index).1
  have hL4 := (vbytes_len x.cmd.kind).1
  have hL5 := (vbytes_len (x.image.length : Nat)).1
  have hh := fun G => hasCmd_s G x.kind
  obtain ⟨A, c, rfl, -⟩ := hi.openInt
  refine v_enter Tryd.func16 rfl Tryd.ntmps16 rfl (fun B => ?_)
  repeat' (first | apply v_seq | apply v_region | apply v_nil | (apply v_pure; (case hop => first | (apply p_assign <;> rfl) | (apply p_fieldAddrB <;> rfl) | fail); (case hd => rfl)) | (apply v_box (zs := recL x.kind x.round x.node x.index x.cmd (.slice A x.image.length c)); (case hx => rfl); (case hz => rfl); (case hd => rfl); intro rb) | (apply v_read; (case hop => first | (apply r_load1; rfl; (apply Cell.own; (case h => (repeat (first | exact List.Mem.head _ | fail))); rfl)) | fail); (case hd => rfl)) | fail)
  refine v_call (μ1 := []) (μ2 := _) rfl (rnum_s _ x.kind (by omega)) (List.Perm.refl _) rfl ?_
  rintro v0 G0 ν0 - ⟨rfl, ho0⟩
  repeat' (first | apply v_seq | apply v_region | apply v_nil | (apply v_pure; (case hop => first | (apply p_move <;> rfl) | (apply p_assign <;> rfl) | (apply p_fieldAddrB <;> rfl) | fail); (case hd => rfl)) | (apply v_read; (case hop => first | (apply r_load1; rfl; (apply Cell.own; (case h => (repeat (first | exact List.Mem.head _ | apply List.mem_append_right))); rfl)) | fail); (case hd => rfl)) | fail)
  refine v_call (μ1 := []) (μ2 := _) rfl (rnum_s _ x.round (by omega)) (List.Perm.refl _) rfl ?_
  rintro r1 G1 μ1 - ⟨rfl, hg1⟩
  refine v_frz μ1 (by repeat (first | exact PickA.here _ | fail)) ?_
  intro H1 hle1 hG1
  have hs1 : Sl H1 1 (IntR .u8) r1 (vbytes x.round) := hg1.ints hG1 (fun x hx => vbytes_wf (by omega) x hx)
  have hsrc1 := fun μ => Src.ints (μ := μ) hs1
  obtain ⟨A1, c1, rfl, -, -⟩ := hg1.shape
  repeat' (fail)
  refine v_append (e := 5) (sz := 1) (zero := .int .u8 0) rfl (by omega) rfl rfl ho0 (PickA.perm (by repeat (first | exact PickA.here _ | fail))) (hsrc1 _) (allOne_ints _) (by (try simp only [List.length_append, sbytes_length]); omega) (by simp only [maxLen]; (try simp only [List.length_append, sbytes_length]); omega) rfl fun v1 ν1 ho1 => ?_
  rw [← List.map_append, ← List.length_append] at ho1
  repeat' (first | apply v_seq | apply v_region | apply v_nil | (apply v_pure; (case hop => first | (apply p_move <;> rfl) | (apply p_assign <;> rfl) | (apply p_fieldAddrB <;> rfl) | fail); (case hd => rfl)) | (apply v_read; (case hop => first | (apply r_load1; rfl; (apply Cell.own; (case h => (repeat (first | exact List.Mem.head _ | apply List.mem_append_right))); rfl)) | fail); (case hd => rfl)) | fail)
  refine v_call (μ1 := []) (μ2 := _) rfl (rnum_s _ x.node (by omega)) (List.Perm.refl _) rfl ?_
  rintro r2 G2 μ2 - ⟨rfl, hg2⟩
  refine v_frz μ2 (by repeat (first | exact PickA.here _ | fail)) ?_
  intro H2 hle2 hG2
  have hs2 : Sl H2 1 (IntR .u8) r2 (vbytes x.node) := hg2.ints hG2 (fun x hx => vbytes_wf (by omega) x hx)
  have hsrc2 := fun μ => Src.ints (μ := μ) hs2
  obtain ⟨A2, c2, rfl, -, -⟩ := hg2.shape
  repeat' (fail)
  refine v_append (e := 5) (sz := 1) (zero := .int .u8 0) rfl (by omega) rfl rfl ho1 (PickA.perm (by repeat (first | exact PickA.here _ | fail))) (hsrc2 _) (allOne_ints _) (by (try simp only [List.length_append, sbytes_length]); omega) (by simp only [maxLen]; (try simp only [List.length_append, sbytes_length]); omega) rfl fun v2 ν2 ho2 => ?_
  rw [← List.map_append, ← List.length_append] at ho2
  repeat' (first | apply v_seq | apply v_region | apply v_nil | (apply v_pure; (case hop => first | (apply p_move <;> rfl) | (apply p_assign <;> rfl) | (apply p_fieldAddrB <;> rfl) | fail); (case hd => rfl)) | (apply v_read; (case hop => first | (apply r_load1; rfl; (apply Cell.own; (case h => (repeat (first | exact List.Mem.head _ | apply List.mem_append_right))); rfl)) | fail); (case hd => rfl)) | fail)
  refine v_call (μ1 := []) (μ2 := _) rfl (rnum_s _ x.index (by omega)) (List.Perm.refl _) rfl ?_
  rintro r3 G3 μ3 - ⟨rfl, hg3⟩
  refine v_frz μ3 (by repeat (first | exact PickA.here _ | fail)) ?_
  intro H3 hle3 hG3
  have hs3 : Sl H3 1 (IntR .u8) r3 (vbytes x.index) := hg3.ints hG3 (fun x hx => vbytes_wf (by omega) x hx)
  have hsrc3 := fun μ => Src.ints (μ := μ) hs3
  obtain ⟨A3, c3, rfl, -, -⟩ := hg3.shape
  repeat' (fail)
  refine v_append (e := 5) (sz := 1) (zero := .int .u8 0) rfl (by omega) rfl rfl ho2 (PickA.perm (by repeat (first | exact PickA.here _ | fail))) (hsrc3 _) (allOne_ints _) (by (try simp only [List.length_append, sbytes_length]); omega) (by simp only [maxLen]; (try simp only [List.length_append, sbytes_length]); omega) rfl fun v3 ν3 ho3 => ?_
  rw [← List.map_append, ← List.length_append] at ho3
  repeat' (first | apply v_seq | apply v_region | apply v_nil | (apply v_pure; (case hop => first | (apply p_assign <;> rfl) | (apply p_fieldAddrB <;> rfl) | fail); (case hd => rfl)) | (apply v_read; (case hop => first | (apply r_load1; rfl; (apply Cell.own; (case h => (repeat (first | exact List.Mem.head _ | apply List.mem_append_right))); rfl)) | fail); (case hd => rfl)) | fail)
  have hi3 := ((hi.mono hle1).mono hle2).mono hle3
  have hlh : ∀ G', GH.le H3 G' → GH.le G1 G' := fun G' h b o q => h b o (hle3 b o (hle2 b o (hle1 b o q)))
  have e0 : vbytes x.kind ++ vbytes x.round ++ vbytes x.node ++ vbytes x.index = headL x := by simp [headL]
  rw [e0] at ho3
  have hhl := headL_len x
  obtain h | h | h | h : x.kind = 1 ∨ x.kind = 2 ∨ x.kind = 3 ∨ x.kind = 4 := by omega
  all_goals repeat' (first | apply v_seq | apply v_region | apply v_nil | apply v_skip | (apply v_pure; (case hop => first | (apply p_move <;> rfl) | (apply p_eq <;> rfl) | (apply p_assign <;> rfl) | (apply p_lenSlice <;> rfl) | (apply p_fieldAddrB <;> rfl) | fail); (case hd => rfl)) | (apply v_cond; (case hc => rfl); all_goals (intro h; (try simp only [reduceCtorEq, dec_true, dec_false, decide_eq_true_eq, decide_eq_false_iff_not, Bool.not_eq_true', Bool.not_eq_false', Option.isNone_iff_eq_none, beq_true, beq_false, beq_iff_eq, beq_eq_false_iff_ne, ne_eq, decide_eq_decide, Bool.not_eq_true, Bool.not_eq_false, Decidable.not_not] at h); first | (exfalso; omega) | skip)) | (apply v_callJ (hs := hh _); (case ha => rfl); (case hd => rfl)) | (apply v_read; (case hop => first | (apply r_loadNo; (case hx => rfl); (case h => (repeat (first | exact List.Mem.head _ | apply List.mem_append_right))); (case hd => (repeat (first | with_reducible exact dt_nil | apply dt_here | fail))); (case hn => rfl)) | (apply r_load1; rfl; (apply Cell.own; (case h => (repeat (first | exact List.Mem.head _ | apply List.mem_append_right))); rfl)) | fail); (case hd => rfl)) | fail)
  · refine v_ret ν3 (outsA1 rfl rfl) (by repeat (first | exact List.sublist_append_left _ _ | fail)) ?_
    rw [show encL x = headL x by rw [encL, if_neg (by omega), if_neg (by omega)]]
    exact ⟨hlh _ (GH.le_refl _), ho3⟩
  · refine v_call (μ1 := []) (μ2 := _) rfl (rcmd_s _ x.cmd hc (by omega) (by omega) (by omega)) (List.Perm.refl _) rfl ?_
    rintro r4 G4 μ4 - ⟨hleR, hg4⟩
    refine v_frz μ4 (by repeat (first | exact PickA.here _ | fail)) ?_
    intro H4 hle4 hG4
    have hs4 : Sl H4 1 (IntR .u8) r4 (vbytes x.cmd.kind ++ putL x.cmd 6) := hg4.ints hG4 (hcw)
    have hsrc4 := fun μ => Src.ints (μ := μ) hs4
    obtain ⟨A4, c4, rfl, -, -⟩ := hg4.shape
    repeat' (fail)
    refine v_append (e := 5) (sz := 1) (zero := .int .u8 0) rfl (by omega) rfl rfl ho3 (PickA.perm (by repeat (first | exact PickA.here _ | fail))) (hsrc4 _) (allOne_ints _) (by (try simp only [List.length_append, sbytes_length]); omega) (by simp only [maxLen]; (try simp only [List.length_append, sbytes_length]); omega) rfl fun v4 ν4 ho4 => ?_
    rw [← List.map_append, ← List.length_append] at ho4
    repeat' (first | apply v_seq | apply v_region | apply v_nil | apply v_skip | (apply v_pure; (case hop => first | (apply p_move <;> rfl) | (apply p_eq <;> rfl) | (apply p_assign <;> rfl) | (apply p_fieldAddrB <;> rfl) | fail); (case hd => rfl)) | (apply v_cond; (case hc => rfl); all_goals (intro h; (try simp only [reduceCtorEq, dec_true, dec_false, decide_eq_true_eq, decide_eq_false_iff_not, Bool.not_eq_true', Bool.not_eq_false', Option.isNone_iff_eq_none, beq_true, beq_false, beq_iff_eq, beq_eq_false_iff_ne, ne_eq, decide_eq_decide, Bool.not_eq_true, Bool.not_eq_false, Decidable.not_not] at h); first | (exfalso; omega) | skip)) | (apply v_read; (case hop => first | (apply r_load1; rfl; (apply Cell.own; (case h => (repeat (first | exact List.Mem.head _ | apply List.mem_append_right))); rfl)) | fail); (case hd => rfl)) | fail)
    refine v_ret ν4 (outsA1 rfl rfl) (by repeat (first | exact List.sublist_append_left _ _ | fail)) ?_
    rw [show encL x = headL x ++ (vbytes x.cmd.kind ++ putL x.cmd 6) by rw [encL, if_pos (by omega)]; simp]
    exact ⟨hlh _ (fun b o q => hle4 b o (hleR b o q)), by simpa using ho4⟩
  · refine v_call (μ1 := []) (μ2 := _) rfl (rcmd_s _ x.cmd hc (by omega) (by omega) (by omega)) (List.Perm.refl _) rfl ?_
    rintro r4 G4 μ4 - ⟨hleR, hg4⟩
    refine v_frz μ4 (by repeat (first | exact PickA.here _ | fail)) ?_
    intro H4 hle4 hG4
    have hs4 : Sl H4 1 (IntR .u8) r4 (vbytes x.cmd.kind ++ putL x.cmd 6) := hg4.ints hG4 (hcw)
    have hsrc4 := fun μ => Src.ints (μ := μ) hs4
    obtain ⟨A4, c4, rfl, -, -⟩ := hg4.shape
    repeat' (fail)
    refine v_append (e := 5) (sz := 1) (zero := .int .u8 0) rfl (by omega) rfl rfl ho3 (PickA.perm (by repeat (first | exact PickA.here _ | fail))) (hsrc4 _) (allOne_ints _) (by (try simp only [List.length_append, sbytes_length]); omega) (by simp only [maxLen]; (try simp only [List.length_append, sbytes_length]); omega) rfl fun v4 ν4 ho4 => ?_
    rw [← List.map_append, ← List.length_append] at ho4
    repeat' (first | apply v_seq | apply v_region | apply v_nil | apply v_skip | (apply v_pure; (case hop => first | (apply p_move <;> rfl) | (apply p_eq <;> rfl) | (apply p_assign <;> rfl) | (apply p_fieldAddrB <;> rfl) | fail); (case hd => rfl)) | (apply v_cond; (case hc => rfl); all_goals (intro h; (try simp only [reduceCtorEq, dec_true, dec_false, decide_eq_true_eq, decide_eq_false_iff_not, Bool.not_eq_true', Bool.not_eq_false', Option.isNone_iff_eq_none, beq_true, beq_false, beq_iff_eq, beq_eq_false_iff_ne, ne_eq, decide_eq_decide, Bool.not_eq_true, Bool.not_eq_false, Decidable.not_not] at h); first | (exfalso; omega) | skip)) | (apply v_read; (case hop => first | (apply r_load1; rfl; (apply Cell.own; (case h => (repeat (first | exact List.Mem.head _ | apply List.mem_append_right))); rfl)) | fail); (case hd => rfl)) | fail)
    refine v_ret ν4 (outsA1 rfl rfl) (by repeat (first | exact List.sublist_append_left _ _ | fail)) ?_
    rw [show encL x = headL x ++ (vbytes x.cmd.kind ++ putL x.cmd 6) by rw [encL, if_pos (by omega)]; simp]
    exact ⟨hlh _ (fun b o q => hle4 b o (hleR b o q)), by simpa using ho4⟩
  · refine v_call (μ1 := []) (μ2 := _) rfl (rnum_s _ (x.image.length : Nat) (by omega)) (List.Perm.refl _) rfl ?_
    rintro r4 G4 μ4 - ⟨rfl, hg4⟩
    refine v_frz μ4 (by repeat (first | exact PickA.here _ | fail)) ?_
    intro H4 hle4 hG4
    have hs4 : Sl H4 1 (IntR .u8) r4 (vbytes x.image.length) := hg4.ints hG4 (fun x hx => vbytes_wf (by omega) x hx)
    have hsrc4 := fun μ => Src.ints (μ := μ) hs4
    obtain ⟨A4, c4, rfl, -, -⟩ := hg4.shape
    repeat' (fail)
    refine v_append (e := 5) (sz := 1) (zero := .int .u8 0) rfl (by omega) rfl rfl ho3 (PickA.perm (by repeat (first | exact PickA.here _ | fail))) (hsrc4 _) (allOne_ints _) (by (try simp only [List.length_append, sbytes_length]); omega) (by simp only [maxLen]; (try simp only [List.length_append, sbytes_length]); omega) rfl fun v4 ν4 ho4 => ?_
    rw [← List.map_append, ← List.length_append] at ho4
    repeat' (first | apply v_region | apply v_nil | (apply v_pure; (case hop => first | (apply p_move <;> rfl) | (apply p_assign <;> rfl) | (apply p_fieldAddrB <;> rfl) | fail); (case hd => rfl)) | (apply v_read; (case hop => first | (apply r_load1; rfl; (apply Cell.own; (case h => (repeat (first | exact List.Mem.head _ | apply List.mem_append_right))); rfl)) | fail); (case hd => rfl)) | fail)
    have hsi := fun μ => Src.ints (μ := μ) (hi3.mono hle4)
    refine v_append (e := 5) (sz := 1) (zero := .int .u8 0) rfl (by omega) rfl rfl ho4 (PickA.perm (by repeat (first | exact PickA.here _ | fail))) (hsi _) (allOne_ints _) (by (try simp only [List.length_append, sbytes_length]); omega) (by simp only [maxLen]; (try simp only [List.length_append, sbytes_length]); omega) rfl fun v5 ν5 ho5 => ?_
    rw [← List.map_append, ← List.length_append] at ho5
    repeat' (first | apply v_seq | apply v_region | apply v_nil | (apply v_pure; (case hop => first | (apply p_move <;> rfl) | (apply p_assign <;> rfl) | fail); (case hd => rfl)) | fail)
    refine v_ret ν5 (outsA1 rfl rfl) (by repeat (first | exact List.sublist_append_left _ _ | fail)) ?_
    rw [show encL x = headL x ++ vbytes x.image.length ++ x.image by rw [encL, if_neg (by omega), if_pos (by omega)]]
    exact ⟨hlh _ hle4, ho5⟩
end Go.Proofs.YtnoiahlpmgbhfaaDoor
/-
  recone (layer 16), the fourteenth part: what a reader reads of a record, in plain Lean.
-/
set_option linter.unusedSimpArgs false
set_option linter.unusedVariables false
namespace Go.Proofs.YtnoiahlpmgbhfaaDoor
open Go.Vx Go.ChangeShapes Go.WideShapes Go.ChangeAt Go.RowKit
/-- What is read of a record. -/
def decX (s : Option (List Int)) : Rc :=
  if nV s = 2 ∨ nV s = 3 then ⟨nV s, nV (nS s), nV (nS (nS s)), nV (nS (nS (nS s))), (getK (nS (nS (nS (nS s)))) 6).1, []⟩
  else if nV s = 4 then ⟨nV s, nV (nS s), nV (nS (nS s)), nV (nS (nS (nS s))), zeroC, rawB 32768 (nS (nS (nS (nS s))))⟩
  else ⟨nV s, nV (nS s), nV (nS (nS s)), nV (nS (nS (nS s))), zeroC, []⟩
def decS (s : Option (List Int)) : Option (List Int) :=
  if nV s = 2 ∨ nV s = 3 then (getK (nS (nS (nS (nS s)))) 6).2
  else if nV s = 4 then rawS 32768 (nS (nS (nS (nS s))))
  else nS (nS (nS (nS s)))
theorem decX_ok {s : Option (List Int)} (h : byteS s) : (decX s).cmd.ok := by
  have h4 := numS_b (numS_b (numS_b (numS_b h 9223372036854775807) 9223372036854775807) 9223372036854775807) 9223372036854775807
  unfold decX
  split
  · exact (getW_ok _ h4 6).1
  · split <;> exact zeroC_ok
theorem rec0 {k r n i : Int} {c : Cm} {len : Nat} (h : recI k r n i c len = 0) : (1 ≤ k ∧ k ≤ 4) ∧ ranP k r n i ∧ ¬ (k = 4 ∧ 32768 < len) ∧ ((k = 2 ∨ k = 3) → cmdI c = 0) ∧ ¬ othP k r n i c len := by
  unfold recI at h
  obtain ⟨h1, h⟩ := ite0 (by decide) h
  obtain ⟨h2, h⟩ := ite0 (by decide) h
  obtain ⟨h3, h⟩ := ite0 (by decide) h
  by_cases hc : (k = 2 ∨ k = 3) ∧ cmdI c ≠ 0
  · rw [if_pos hc] at h; exact absurd h hc.2
  · rw [if_neg hc] at h
    obtain ⟨h4, h⟩ := ite0 (by decide) h
    refine ⟨by omega, Decidable.not_not.1 h2, h3, fun hk => ?_, h4⟩
    exact Decidable.not_not.1 fun hn => hc ⟨hk, hn⟩
theorem older0 {x : Rc} (h : olderI x = 0) : recI x.kind x.round x.node x.index x.cmd x.image.length = 0 ∧ ((x.kind = 2 ∨ x.kind = 3) → HasV 1 x.cmd.kind) := by
  unfold olderI at h
  by_cases h0 : recI x.kind x.round x.node x.index x.cmd x.image.length = 0
  · rw [if_neg (by rw [h0]; decide)] at h
    obtain ⟨h1, -⟩ := ite0 (by decide) h
    refine ⟨h0, fun hk => ?_⟩
    exact Decidable.not_not.1 fun hn => h1 ⟨hk, hn⟩
  · rw [if_pos h0] at h; exact absurd h h0
theorem cmdSz {c : Cm} (h : cmdI c = 0) : c.key.size ≤ 24 ∧ c.val.size ≤ 48 ∧ c.old.size ≤ 48 := by
  rw [cmdI_eq] at h
  unfold cmdE at h
  obtain ⟨h1, h⟩ := ite0 (by decide) h
  obtain ⟨h2, h⟩ := ite0 (by decide) h
  obtain ⟨h3, h⟩ := ite0 (by decide) h
  obtain ⟨h4, h⟩ := ite0 (by decide) h
  have hk : keyB c.key = true → c.key.size ≤ 24 := fun e => by
    simp only [keyB, Bool.and_eq_true, decide_eq_true_eq] at e
    exact e.1.2
  have hv : ∀ s, valB s = true → s.size ≤ 48 := fun s e => by
    simp only [valB, Bool.and_eq_true, decide_eq_true_eq] at e
    exact e.1.1
  have e1 := hv c.val
  have e2 := hv c.old
  cases hkb : keyB c.key <;> cases hvb : valB c.val <;> cases hob : valB c.old <;> simp only [hkb, hvb, hob, true_implies, reduceCtorEq, false_implies, and_true, and_false] at * <;> omega
/-- A record that may be is not too large. -/
theorem fits0 {x : Rc} (h : recI x.kind x.round x.node x.index x.cmd x.image.length = 0) : x.fits ∧ x.small ∧ x.image.length ≤ 32768 ∧ x.cmd.key.size ≤ 24 ∧ x.cmd.val.size ≤ 48 ∧ x.cmd.old.size ≤ 48 := by
  obtain ⟨hk, hr, hi, hc, ho⟩ := rec0 h
  unfold ranP mayP at hr
  have hcz : (x.kind = 2 ∨ x.kind = 3) ∨ x.cmd = zeroCm := by
    by_cases hh : x.kind = 2 ∨ x.kind = 3
    · exact .inl hh
    · exact .inr (Decidable.not_not.1 fun hn => ho (.inr (.inr (.inl ⟨hh, hn⟩))))
  have hs : x.cmd.key.size ≤ 24 ∧ x.cmd.val.size ≤ 48 ∧ x.cmd.old.size ≤ 48 := by
    obtain hh | hh := hcz
    · exact cmdSz (hc hh)
    · rw [hh]; decide
  have him : x.image.length ≤ 32768 := by unfold othP at ho; omega
  refine ⟨?_, ?_, him, hs⟩
  · unfold Rc.fits; omega
  · unfold Rc.small; unfold othP at ho; omega
/-- What is written of a record leads back to it. -/
theorem dec_enc {x : Rc} (h : olderI x = 0) (hl : ¬ x.large) : decX (some (encL x)) = x ∧ decS (some (encL x)) = some [] := by
  obtain ⟨h0, hv⟩ := older0 h
  obtain ⟨hk, hr, hi, hc, ho⟩ := rec0 h0
  unfold Rc.large at hl
  obtain ⟨k, r, n, i, c, im⟩ := x
  simp only at hk hr hi hc ho hv hl
  unfold ranP mayP at hr
  have hcz : ¬ (k = 2 ∨ k = 3) → c = zeroCm := fun hh => Decidable.not_not.1 fun hn => ho (.inr (.inr (.inl ⟨hh, hn⟩)))
  have hr0 : 0 ≤ r ∧ r ≤ 4294967296 := by unfold othP at ho; omega
  have hn0 : 0 ≤ n ∧ n ≤ 9 := by unfold othP at ho; omega
  have hi0 : 0 ≤ i ∧ i ≤ 4294967296 := by unfold othP at ho; omega
  have him : k ≠ 4 → im = [] := fun hh => by
    have : im.length = 0 := by unfold othP at ho; omega
    exact List.eq_nil_of_length_eq_zero this
  have q1 := fun t => num_v (m := k) t (by omega) (by omega)
  have q2 := fun t => num_v (m := r) t (by omega) (by omega)
  have q3 := fun t => num_v (m := n) t (by omega) (by omega)
  have q4 := fun t => num_v (m := i) t (by omega) (by omega)
  by_cases h23 : k = 2 ∨ k = 3
  · have e : encL ⟨k, r, n, i, c, im⟩ = vbytes k ++ (vbytes r ++ (vbytes n ++ (vbytes i ++ (vbytes c.kind ++ putW (wantB 1 c.kind) c 6 ++ [])))) := by
      rw [encL, if_pos h23]; simp [headL, putL]
    obtain ⟨c1, c2, c3, c4, c5⟩ := cmd0 (hc h23)
    have c6 := hv h23
    unfold HasV at c6
    have qk := getV_put (v := 1) (c := c) (hc h23) (.inl ⟨rfl, by omega⟩) (by omega) []
    rw [e]
    unfold decX decS
    simp only [q1, q2, q3, q4, qk]
    rw [if_pos h23, if_pos h23, him (by omega)]
    exact ⟨rfl, rfl⟩
  · rw [hcz h23]
    by_cases h4 : k = 4
    · have e : encL ⟨k, r, n, i, zeroCm, im⟩ = vbytes k ++ (vbytes r ++ (vbytes n ++ (vbytes i ++ (vbytes im.length ++ im ++ [])))) := by
        rw [encL, if_neg h23, if_pos h4]; simp [headL]
      have qk := raw_v (most := 32768) im [] (by omega) (by omega)
      rw [e]
      unfold decX decS
      simp only [q1, q2, q3, q4, qk]
      rw [if_neg h23, if_pos h4, if_neg h23, if_pos h4]
      exact ⟨rfl, rfl⟩
    · have e : encL ⟨k, r, n, i, zeroCm, im⟩ = vbytes k ++ (vbytes r ++ (vbytes n ++ (vbytes i ++ []))) := by
        rw [encL, if_neg h23, if_neg h4]; simp [headL]
      rw [e]
      unfold decX decS
      simp only [q1, q2, q3, q4]
      rw [if_neg h23, if_neg h4, if_neg h23, if_neg h4, him h4]
      exact ⟨rfl, rfl⟩
end Go.Proofs.YtnoiahlpmgbhfaaDoor
