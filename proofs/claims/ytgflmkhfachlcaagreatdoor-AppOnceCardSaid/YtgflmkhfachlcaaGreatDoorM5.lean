/-
  The references 22 and 23: keys rise; pairs and sessions that may be.
-/
import Derived.Test.YtgflmkhfachlcaaGreatDoorM4
import Derived.Lib.LaidU8T
import Derived.MakeChecks
import Derived.Test.YtgflmkhfachlcaaGreatDoorRows
import Derived.Test.YtgflmkhfachlcaaGreatDoorTie
import Derived.Test.YtgflmkhfachlcaaGreatDoorCards
import Derived.Lay
import Derived.LaidMore
import Derived.SevenTiedAt
import Derived.Stop.Joined
set_option linter.unusedSimpArgs false
set_option linter.unusedVariables false
namespace Go.Proofs.YtgflmkhfachlcaaGreatDoor
open Go.Vx Go.ChangeShapes Go.WideShapes Go.ChangeAt Go.RowKit
noncomputable instance (l : List Pr) : Decidable (AdjP l) := Classical.propDecidable _
noncomputable instance (l : List Ss) : Decidable (AdjS l) := Classical.propDecidable _
theorem refPRise_s {G : GH} {l : List Pr} {sv : Value} (hs : Prs G sv l) (hz : Sized l) : Con Tryz.prog 41 #[sv] G [] (Just (.bool (decide (AdjP l))) G) := by
  obtain ⟨A, c, rfl, hlc, hcm, hsome, hcp⟩ := rowOpen hs
  simp only [maxLen] at hcm
  apply Con.just
  (refine v_enter Tryz.func41 rfl Tryz.ntmps41 rfl ?_; intro B _)
  repeat' (first | apply v_seq | apply v_region | apply v_nil | apply v_block | (apply v_pure; (case hop => first | (apply p_assign <;> rfl) | fail); (case hd => rfl)) | fail)
  refine v_loop [3, 0] (fun us G' μ' => G' = G ∧ μ' = [] ∧ ∃ k : Nat, 1 ≤ k ∧ us = [Value.int .i64 (k : Nat), .slice A l.length c] ∧ ∀ i (h : i < l.length) (h0 : 0 < i), i < k → ksP (l[i - 1]'(by omega)) < ksP l[i]) (fun us => l.length - (headI us).toNat) rfl ⟨rfl, rfl, 1, by omega, rfl, by omega⟩ ?_
  rintro us G' _ ⟨rfl, rfl, k, hk, rfl, hno⟩
  by_cases hlt : k < l.length
  · have e1 : ((k : Nat) : Int).toNat = k := by omega
    have e2 : (((k : Nat) : Int) - 1).toNat = k - 1 := by omega
    have hA := hsome (by omega)
    have hck := (hcp k hlt).cell (j := 0) rfl
    have hpk := (hcp (k - 1) (by omega)).cell (j := 0) rfl
    have hz1 := (hz _ (List.getElem_mem hlt)).1
    have hz2 := (hz _ (List.getElem_mem (show k - 1 < l.length by omega))).1
    have hin : AdjP l → kn (l[k - 1]'(by omega)).key < kn (l[k]).key := fun h => h k hlt hk
    have hnx : kn (l[k - 1]'(by omega)).key < kn (l[k]).key → ∀ i (h : i < l.length) (h0 : 0 < i), i < k + 1 → ksP (l[i - 1]'(by omega)) < ksP l[i] := fun a i hi h0 hik => by
      by_cases e : i = k
      · subst e; exact a
      · exact hno i hi h0 (by omega)
    generalize (l[k]).key = x at *
    generalize (l[k - 1]).key = y at *
    repeat' (first | apply v_seq | apply v_region | apply v_nil | apply v_skip | apply v_block | (apply v_pure; (case hop => first | (apply p_move <;> rfl) | (apply p_lt <;> rfl) | (apply p_lenSlice <;> rfl) | fail); (case hd => rfl)) | (apply v_cond; (case hc => rfl); all_goals (intro h; (try simp only [reduceCtorEq, dec_true, dec_false, decide_eq_true_eq, decide_eq_false_iff_not, Bool.not_eq_true', Bool.not_eq_false', Option.isNone_iff_eq_none, beq_true, beq_false, beq_iff_eq, beq_eq_false_iff_ne, ne_eq, decide_eq_decide, Bool.not_eq_true, Bool.not_eq_false, Decidable.not_not] at h); first | (exfalso; omega) | skip)) | fail)
    refine d_start [] (by kernel_rfl) (by kernel_rfl) (by kernel_rfl) (by intro e he; first | exact he | fail) ?_
    all_goals (first | (apply d_take 0; (case hi => rfl); (case hop => first | (apply PureOp.read; apply p_move <;> rfl)); (case hf => kernel_rfl); (case hr => kernel_rfl); (case hd => rfl)) | fail)
    all_goals (first | (apply d_take 1; (case hi => rfl); (case hop => first | (apply PureOp.read; apply p_move <;> rfl)); (case hf => kernel_rfl); (case hr => kernel_rfl); (case hd => rfl)) | fail)
    all_goals (first | (apply d_take 2; (case hi => rfl); (case hop => first | (apply PureOp.read; apply p_indexAddrS; (case hx => rfl); (case hi => rfl); (case h0 => omega); (case h => omega); (case hA => first | assumption | fail))); (case hf => kernel_rfl); (case hr => kernel_rfl); (case hd => rfl)) | fail)
    all_goals (first | (apply d_take 3; (case hi => rfl); (case hop => first | (apply PureOp.read; apply p_fieldAddr <;> rfl)); (case hf => kernel_rfl); (case hr => kernel_rfl); (case hd => rfl)) | fail)
    all_goals (first | (apply d_take 4; (case hi => rfl); (case hop => first | ((apply r_load1; rfl; exact Cell.frozen hck)) | fail); (case hf => kernel_rfl); (case hr => kernel_rfl); (case hd => rfl)) | fail)
    all_goals (first | (apply d_take 5; (case hi => rfl); (case hop => first | (apply PureOp.read; apply p_move <;> rfl)); (case hf => kernel_rfl); (case hr => kernel_rfl); (case hd => rfl)) | fail)
    all_goals (first | (apply d_take 6; (case hi => rfl); (case hop => first | (apply PureOp.read; apply p_move <;> rfl)); (case hf => kernel_rfl); (case hr => kernel_rfl); (case hd => rfl)) | fail)
    all_goals (first | (apply d_take 7; (case hi => rfl); (case hop => first | (apply PureOp.read; apply p_sub; (case hx => rfl); (case hy => rfl); (case h => omega))); (case hf => kernel_rfl); (case hr => kernel_rfl); (case hd => rfl)) | fail)
    all_goals (first | (apply d_take 8; (case hi => rfl); (case hop => first | (apply PureOp.read; apply p_indexAddrS; (case hx => rfl); (case hi => rfl); (case h0 => omega); (case h => omega); (case hA => first | assumption | fail))); (case hf => kernel_rfl); (case hr => kernel_rfl); (case hd => rfl)) | fail)
    all_goals (first | (apply d_take 9; (case hi => rfl); (case hop => first | (apply PureOp.read; apply p_fieldAddr <;> rfl)); (case hf => kernel_rfl); (case hr => kernel_rfl); (case hd => rfl)) | fail)
    all_goals (first | (apply d_take 10; (case hi => rfl); (case hop => first | ((apply r_load1; rfl; exact Cell.frozen (by rw [e2]; exact hpk))) | fail); (case hf => kernel_rfl); (case hr => kernel_rfl); (case hd => rfl)) | fail)
    all_goals (first | (apply d_take 11; (case hi => rfl); (case hop => first | ((apply PureOp.read; apply p_leK; (case hx => rfl); (case hy => rfl); (case ha => assumption); (case hb => assumption))) | fail); (case hf => kernel_rfl); (case hr => kernel_rfl); (case hd => rfl)) | fail)
    all_goals (apply d_done; (case hr => kernel_rfl))
    repeat' (first | apply v_seq | apply v_region | apply v_nil | apply v_skip | apply v_blk | (apply v_pure; (case hop => first | (apply p_move <;> rfl) | (apply p_assign <;> rfl) | (apply p_add; (case hx => rfl); (case hy => rfl); (case h => omega)) | fail); (case hd => rfl)) | (apply v_cond; (case hc => rfl); all_goals (intro h; (try simp only [reduceCtorEq, dec_true, dec_false, decide_eq_true_eq, decide_eq_false_iff_not, Bool.not_eq_true', Bool.not_eq_false', Option.isNone_iff_eq_none, beq_true, beq_false, beq_iff_eq, beq_eq_false_iff_ne, ne_eq, decide_eq_decide, Bool.not_eq_true, Bool.not_eq_false, Decidable.not_not] at h); first | skip)) | fail)
    · refine v_ret [] (outsA1 rfl rfl) (by repeat (first | exact List.Sublist.refl _ | fail)) ?_
      refine ⟨?_, rfl⟩
      rw [decide_eq_false (fun h => by have := hin h; omega)]
    · refine v_again rfl ⟨rfl, rfl, k + 1, by omega, rfl, hnx (by omega)⟩ (by simp [headI]; omega)
  · repeat' (first | apply v_seq | apply v_region | apply v_nil | (apply v_exit; (case hp => rfl)) | (apply v_pure; (case hop => first | (apply p_move <;> rfl) | (apply p_lt <;> rfl) | (apply p_assign <;> rfl) | (apply p_lenSlice <;> rfl) | fail); (case hd => rfl)) | (apply v_cond; (case hc => rfl); all_goals (intro h; (try simp only [reduceCtorEq, dec_true, dec_false, decide_eq_true_eq, decide_eq_false_iff_not, Bool.not_eq_true', Bool.not_eq_false', Option.isNone_iff_eq_none, beq_true, beq_false, beq_iff_eq, beq_eq_false_iff_ne, ne_eq, decide_eq_decide, Bool.not_eq_true, Bool.not_eq_false, Decidable.not_not] at h); first | (exfalso; omega) | skip)) | fail)
    refine v_ret [] (outsA1 rfl rfl) (by repeat (first | exact List.Sublist.refl _ | fail)) ?_
    refine ⟨?_, rfl⟩
    rw [decide_eq_true (show AdjP l from fun i h h0 => hno i h h0 (by omega))]
theorem refSRise_s {G : GH} {l : List Ss} {sv : Value} (hs : Sss G sv l) : Con Tryz.prog 43 #[sv] G [] (Just (.bool (decide (AdjS l))) G) := by
  obtain ⟨A, c, rfl, hlc, hcm, hsome, hcp⟩ := rowOpen hs
  simp only [maxLen] at hcm
  apply Con.just
  (refine v_enter Tryz.func43 rfl Tryz.ntmps43 rfl ?_; intro B _)
  repeat' (first | apply v_seq | apply v_region | apply v_nil | apply v_block | (apply v_pure; (case hop => first | (apply p_assign <;> rfl) | fail); (case hd => rfl)) | fail)
  refine v_loop [3, 0] (fun us G' μ' => G' = G ∧ μ' = [] ∧ ∃ k : Nat, 1 ≤ k ∧ us = [Value.int .i64 (k : Nat), .slice A l.length c] ∧ ∀ i (h : i < l.length) (h0 : 0 < i), i < k → ksS (l[i - 1]'(by omega)) < ksS l[i]) (fun us => l.length - (headI us).toNat) rfl ⟨rfl, rfl, 1, by omega, rfl, by omega⟩ ?_
  rintro us G' _ ⟨rfl, rfl, k, hk, rfl, hno⟩
  by_cases hlt : k < l.length
  · have e1 : ((k : Nat) : Int).toNat = k := by omega
    have e2 : (((k : Nat) : Int) - 1).toNat = k - 1 := by omega
    have hA := hsome (by omega)
    have hck := (hcp k hlt).cell (j := 0) rfl
    have hpk := (hcp (k - 1) (by omega)).cell (j := 0) rfl
    have hin : AdjS l → (l[k - 1]'(by omega)).client < (l[k]).client := fun h => h k hlt hk
    have hnx : (l[k - 1]'(by omega)).client < (l[k]).client → ∀ i (h : i < l.length) (h0 : 0 < i), i < k + 1 → ksS (l[i - 1]'(by omega)) < ksS l[i] := fun a i hi h0 hik => by
      by_cases e : i = k
      · subst e; exact a
      · exact hno i hi h0 (by omega)
    generalize (l[k]).client = x at *
    generalize (l[k - 1]).client = y at *
    repeat' (first | apply v_seq | apply v_region | apply v_nil | apply v_skip | apply v_block | (apply v_pure; (case hop => first | (apply p_move <;> rfl) | (apply p_lt <;> rfl) | (apply p_lenSlice <;> rfl) | fail); (case hd => rfl)) | (apply v_cond; (case hc => rfl); all_goals (intro h; (try simp only [reduceCtorEq, dec_true, dec_false, decide_eq_true_eq, decide_eq_false_iff_not, Bool.not_eq_true', Bool.not_eq_false', Option.isNone_iff_eq_none, beq_true, beq_false, beq_iff_eq, beq_eq_false_iff_ne, ne_eq, decide_eq_decide, Bool.not_eq_true, Bool.not_eq_false, Decidable.not_not] at h); first | (exfalso; omega) | skip)) | fail)
    refine d_start [] (by kernel_rfl) (by kernel_rfl) (by kernel_rfl) (by intro e he; first | exact he | fail) ?_
    all_goals (first | (apply d_take 0; (case hi => rfl); (case hop => first | (apply PureOp.read; apply p_move <;> rfl)); (case hf => kernel_rfl); (case hr => kernel_rfl); (case hd => rfl)) | fail)
    all_goals (first | (apply d_take 1; (case hi => rfl); (case hop => first | (apply PureOp.read; apply p_move <;> rfl)); (case hf => kernel_rfl); (case hr => kernel_rfl); (case hd => rfl)) | fail)
    all_goals (first | (apply d_take 2; (case hi => rfl); (case hop => first | (apply PureOp.read; apply p_indexAddrS; (case hx => rfl); (case hi => rfl); (case h0 => omega); (case h => omega); (case hA => first | assumption | fail))); (case hf => kernel_rfl); (case hr => kernel_rfl); (case hd => rfl)) | fail)
    all_goals (first | (apply d_take 3; (case hi => rfl); (case hop => first | (apply PureOp.read; apply p_fieldAddr <;> rfl)); (case hf => kernel_rfl); (case hr => kernel_rfl); (case hd => rfl)) | fail)
    all_goals (first | (apply d_take 4; (case hi => rfl); (case hop => first | ((apply r_load1; rfl; exact Cell.frozen hck)) | fail); (case hf => kernel_rfl); (case hr => kernel_rfl); (case hd => rfl)) | fail)
    all_goals (first | (apply d_take 5; (case hi => rfl); (case hop => first | (apply PureOp.read; apply p_move <;> rfl)); (case hf => kernel_rfl); (case hr => kernel_rfl); (case hd => rfl)) | fail)
    all_goals (first | (apply d_take 6; (case hi => rfl); (case hop => first | (apply PureOp.read; apply p_move <;> rfl)); (case hf => kernel_rfl); (case hr => kernel_rfl); (case hd => rfl)) | fail)
    all_goals (first | (apply d_take 7; (case hi => rfl); (case hop => first | (apply PureOp.read; apply p_sub; (case hx => rfl); (case hy => rfl); (case h => omega))); (case hf => kernel_rfl); (case hr => kernel_rfl); (case hd => rfl)) | fail)
    all_goals (first | (apply d_take 8; (case hi => rfl); (case hop => first | (apply PureOp.read; apply p_indexAddrS; (case hx => rfl); (case hi => rfl); (case h0 => omega); (case h => omega); (case hA => first | assumption | fail))); (case hf => kernel_rfl); (case hr => kernel_rfl); (case hd => rfl)) | fail)
    all_goals (first | (apply d_take 9; (case hi => rfl); (case hop => first | (apply PureOp.read; apply p_fieldAddr <;> rfl)); (case hf => kernel_rfl); (case hr => kernel_rfl); (case hd => rfl)) | fail)
    all_goals (first | (apply d_take 10; (case hi => rfl); (case hop => first | ((apply r_load1; rfl; exact Cell.frozen (by rw [e2]; exact hpk))) | fail); (case hf => kernel_rfl); (case hr => kernel_rfl); (case hd => rfl)) | fail)
    all_goals (first | (apply d_take 11; (case hi => rfl); (case hop => first | (apply PureOp.read; apply p_le <;> rfl)); (case hf => kernel_rfl); (case hr => kernel_rfl); (case hd => rfl)) | fail)
    all_goals (apply d_done; (case hr => kernel_rfl))
    repeat' (first | apply v_seq | apply v_region | apply v_nil | apply v_skip | apply v_blk | (apply v_pure; (case hop => first | (apply p_move <;> rfl) | (apply p_assign <;> rfl) | (apply p_add; (case hx => rfl); (case hy => rfl); (case h => omega)) | fail); (case hd => rfl)) | (apply v_cond; (case hc => rfl); all_goals (intro h; (try simp only [reduceCtorEq, dec_true, dec_false, decide_eq_true_eq, decide_eq_false_iff_not, Bool.not_eq_true', Bool.not_eq_false', Option.isNone_iff_eq_none, beq_true, beq_false, beq_iff_eq, beq_eq_false_iff_ne, ne_eq, decide_eq_decide, Bool.not_eq_true, Bool.not_eq_false, Decidable.not_not] at h); first | skip)) | fail)
    · refine v_ret [] (outsA1 rfl rfl) (by repeat (first | exact List.Sublist.refl _ | fail)) ?_
      refine ⟨?_, rfl⟩
      rw [decide_eq_false (fun h => by have := hin h; omega)]
    · refine v_again rfl ⟨rfl, rfl, k + 1, by omega, rfl, hnx (by omega)⟩ (by simp [headI]; omega)
  · repeat' (first | apply v_seq | apply v_region | apply v_nil | (apply v_exit; (case hp => rfl)) | (apply v_pure; (case hop => first | (apply p_move <;> rfl) | (apply p_lt <;> rfl) | (apply p_assign <;> rfl) | (apply p_lenSlice <;> rfl) | fail); (case hd => rfl)) | (apply v_cond; (case hc => rfl); all_goals (intro h; (try simp only [reduceCtorEq, dec_true, dec_false, decide_eq_true_eq, decide_eq_false_iff_not, Bool.not_eq_true', Bool.not_eq_false', Option.isNone_iff_eq_none, beq_true, beq_false, beq_iff_eq, beq_eq_false_iff_ne, ne_eq, decide_eq_decide, Bool.not_eq_true, Bool.not_eq_false, Decidable.not_not] at h); first | (exfalso; omega) | skip)) | fail)
    refine v_ret [] (outsA1 rfl rfl) (by repeat (first | exact List.Sublist.refl _ | fail)) ?_
    refine ⟨?_, rfl⟩
    rw [decide_eq_true (show AdjS l from fun i h h0 => hno i h h0 (by omega))]
theorem refAns_s {G : GH} (a : An) (hv : a.val.size ≤ 200) : Con Tryz.prog 42 #[.agg a.cells.toArray] G [] (Just (.int .i64 (ansI a)) G) := by
  have qv := refVal_s (G := G) (s := a.val) (by omega)
  unfold ansI
  apply Con.just
  obtain ⟨client, seq, err, found, val, rev⟩ := a
  simp only at *
  generalize hvb : valB val = vb at *
  (refine v_enter Tryz.func42 rfl Tryz.ntmps42 rfl ?_; intro B _)
  repeat' (first | (apply v_box (zs := An.cells ⟨client, seq, err, found, val, rev⟩); (case hx => rfl); (case hz => rfl); (case hd => rfl); intro b) | apply v_seq | apply v_region | apply v_nil | apply v_skip | (apply v_take; (case hg => rfl)) | (apply v_pass; (case hg => rfl); (case hn => rfl); (case hd => rfl)) | (apply v_pure; (case hop => first | (apply p_move <;> rfl) | (apply p_lt <;> rfl) | (apply p_gt <;> rfl) | (apply p_assign <;> rfl) | (apply p_pickT <;> rfl) | (apply p_pickF <;> rfl) | (apply p_not <;> rfl) | (apply p_fieldAddrB <;> rfl) | fail); (case hd => rfl)) | (apply v_condT; (case hc => rfl)) | (apply v_cond; (case hc => rfl); all_goals (intro h; (try simp only [reduceCtorEq, dec_true, dec_false, decide_eq_true_eq, decide_eq_false_iff_not, Bool.not_eq_true', Bool.not_eq_false', Option.isNone_iff_eq_none, beq_true, beq_false, beq_iff_eq, beq_eq_false_iff_ne, ne_eq, decide_eq_decide, Bool.not_eq_true, Bool.not_eq_false, Decidable.not_not] at h); first | skip)) | (apply v_guardB; (case h1 => rfl); (case h2 => rfl); all_goals (intro h; (try simp only [reduceCtorEq, dec_true, dec_false, decide_eq_true_eq, decide_eq_false_iff_not, Bool.not_eq_true', Bool.not_eq_false', Option.isNone_iff_eq_none, beq_true, beq_false, beq_iff_eq, beq_eq_false_iff_ne, ne_eq, decide_eq_decide, Bool.not_eq_true, Bool.not_eq_false, Decidable.not_not] at h); first | skip)) | (apply v_callJ (hs := qv); (case ha => rfl); (case hd => rfl)) | (apply v_read; (case hop => first | (apply r_load1; rfl; (apply Cell.own; (case h => (repeat (first | exact List.Mem.head _ | fail))); rfl)) | fail); (case hd => rfl)) | fail)
  all_goals
    (refine v_ret [] (outsA1 rfl rfl) (by repeat (first | exact List.nil_sublist _ | fail)) ?_
     refine ⟨?_, rfl⟩
     (repeat' split) <;> first | rfl | (exfalso; omega) | (exfalso; simp_all; done))
end Go.Proofs.YtgflmkhfachlcaaGreatDoor
/-
  The references 22 and 23: pairs and sessions that may be.
-/
set_option linter.unusedSimpArgs false
set_option linter.unusedVariables false
namespace Go.Proofs.YtgflmkhfachlcaaGreatDoor
open Go.Vx Go.ChangeShapes Go.WideShapes Go.ChangeAt Go.RowKit
set_option maxHeartbeats 1000000 in
theorem refSCheck_s {G : GH} {l : List Ss} {sv : Value} (hs : Sss G sv l) (hz : SizedS l) : Con Tryz.prog 25 #[sv] G [] (Just (.bool (decide (SesP l))) G) := by
  have qr := refSRise_s hs
  obtain ⟨A, c, rfl, hlc, hcm, hsome, hcp⟩ := rowOpen hs
  simp only [maxLen] at hcm
  apply Con.just
  (refine v_enter Tryz.func25 rfl Tryz.ntmps25 rfl ?_; intro B _)
  repeat' (first | apply v_seq | apply v_region | apply v_nil | apply v_block | (apply v_pure; (case hop => first | (apply p_assign <;> rfl) | fail); (case hd => rfl)) | fail)
  refine v_loop [3, 0] (fun us G' μ' => G' = G ∧ μ' = [] ∧ ∃ k : Nat, k ≤ l.length ∧ us = [Value.int .i64 (k : Nat), .slice A l.length c] ∧ ∀ i (h : i < l.length), i < k → SsOk l[i]) (fun us => l.length - (headI us).toNat) rfl ⟨rfl, rfl, 0, by omega, rfl, by omega⟩ ?_
  rintro us G' _ ⟨rfl, rfl, k, hk, rfl, hno⟩
  by_cases hlt : k < l.length
  · have e1 : ((k : Nat) : Int).toNat = k := by omega
    have hA := hsome (by omega)
    have hck := hcp k hlt
    have hz1 := hz _ (List.getElem_mem hlt)
    have hin : ∀ P : Prop, SesP l → (SsOk l[k] → P) → P := fun P h hp => hp (h.2 _ (List.getElem_mem hlt))
    have hnx : SsOk l[k] → ∀ i (h : i < l.length), i < k + 1 → SsOk l[i] := fun a2 i hi hik => by
      by_cases e : i = k
      · subst e
        exact a2
      · exact hno i hi (by omega)
    have qa := refAns_s (G := G') (l[k]).last hz1
    generalize l[k] = x at *
    obtain ⟨client, seq, ⟨lc, ls, le, lf, lv, lr⟩⟩ := x
    unfold SsOk at hin hnx
    simp only at *
    have hc0 := hck.cell (j := 0) rfl
    have hc1 := hck.cell (j := 1) rfl
    have hl : CellsG G' (((adr A).add (k * 8)).add 2) (An.cells ⟨lc, ls, le, lf, lv, lr⟩) := fun j v hv => by
      rw [add_add]
      refine hck (2 + j) v ?_
      rw [Nat.add_comm]
      exact hv
    have hl0 := hl.cell (j := 0) rfl
    have hl1 := hl.cell (j := 1) rfl
    generalize ansI ⟨lc, ls, le, lf, lv, lr⟩ = ai at *
    repeat' (first | apply v_seq | apply v_region | apply v_nil | apply v_skip | apply v_block | (apply v_pure; (case hop => first | (apply p_move <;> rfl) | (apply p_lt <;> rfl) | (apply p_lenSlice <;> rfl) | fail); (case hd => rfl)) | (apply v_cond; (case hc => rfl); all_goals (intro h; (try simp only [reduceCtorEq, dec_true, dec_false, decide_eq_true_eq, decide_eq_false_iff_not, Bool.not_eq_true', Bool.not_eq_false', Option.isNone_iff_eq_none, beq_true, beq_false, beq_iff_eq, beq_eq_false_iff_ne, ne_eq, decide_eq_decide, Bool.not_eq_true, Bool.not_eq_false, Decidable.not_not] at h); first | (exfalso; omega) | skip)) | fail)
    refine d_start [] (by kernel_rfl) (by kernel_rfl) (by kernel_rfl) (by intro e he; first | exact he | fail) ?_
    all_goals (first | (apply d_take 0; (case hi => rfl); (case hop => first | (apply PureOp.read; apply p_move <;> rfl)); (case hf => kernel_rfl); (case hr => kernel_rfl); (case hd => rfl)) | fail)
    all_goals (first | (apply d_take 1; (case hi => rfl); (case hop => first | (apply PureOp.read; apply p_move <;> rfl)); (case hf => kernel_rfl); (case hr => kernel_rfl); (case hd => rfl)) | fail)
    all_goals (first | (apply d_take 2; (case hi => rfl); (case hop => first | (apply PureOp.read; apply p_indexAddrS; (case hx => rfl); (case hi => rfl); (case h0 => omega); (case h => omega); (case hA => first | assumption | fail))); (case hf => kernel_rfl); (case hr => kernel_rfl); (case hd => rfl)) | fail)
    all_goals (first | (apply d_take 3; (case hi => rfl); (case hop => first | (apply PureOp.read; apply p_fieldAddr <;> rfl)); (case hf => kernel_rfl); (case hr => kernel_rfl); (case hd => rfl)) | fail)
    all_goals (first | (apply d_take 4; (case hi => rfl); (case hop => first | (apply PureOp.read; apply p_fieldAddrB <;> rfl) | fail); (case hf => kernel_rfl); (case hr => kernel_rfl); (case hd => rfl)) | fail)
    all_goals (first | (apply d_take 5; (case hi => rfl); (case hop => first | ((apply r_load1; rfl; exact Cell.frozen hl0)) | fail); (case hf => kernel_rfl); (case hr => kernel_rfl); (case hd => rfl)) | fail)
    all_goals (first | (apply d_take 6; (case hi => rfl); (case hop => first | (apply PureOp.read; apply p_move <;> rfl)); (case hf => kernel_rfl); (case hr => kernel_rfl); (case hd => rfl)) | fail)
    all_goals (first | (apply d_take 7; (case hi => rfl); (case hop => first | (apply PureOp.read; apply p_move <;> rfl)); (case hf => kernel_rfl); (case hr => kernel_rfl); (case hd => rfl)) | fail)
    all_goals (first | (apply d_take 8; (case hi => rfl); (case hop => first | (apply PureOp.read; apply p_indexAddrS; (case hx => rfl); (case hi => rfl); (case h0 => omega); (case h => omega); (case hA => first | assumption | fail))); (case hf => kernel_rfl); (case hr => kernel_rfl); (case hd => rfl)) | fail)
    all_goals (first | (apply d_take 9; (case hi => rfl); (case hop => first | (apply PureOp.read; apply p_fieldAddr <;> rfl)); (case hf => kernel_rfl); (case hr => kernel_rfl); (case hd => rfl)) | fail)
    all_goals (first | (apply d_take 10; (case hi => rfl); (case hop => first | ((apply r_load1; rfl; exact Cell.frozen hc0)) | fail); (case hf => kernel_rfl); (case hr => kernel_rfl); (case hd => rfl)) | fail)
    all_goals (first | (apply d_take 11; (case hi => rfl); (case hop => first | (apply PureOp.read; apply p_ne <;> rfl) | fail); (case hf => kernel_rfl); (case hr => kernel_rfl); (case hd => rfl)) | fail)
    all_goals (first | (apply d_take 12; (case hi => rfl); (case hop => first | (apply PureOp.read; apply p_move <;> rfl)); (case hf => kernel_rfl); (case hr => kernel_rfl); (case hd => rfl)) | fail)
    all_goals (try (apply d_guardB 13; (case hi => rfl); (case hgd => rfl); (case h1 => rfl); (case h2 => first | rfl); all_goals (intro h; (try simp only [reduceCtorEq, dec_true, dec_false, decide_eq_true_eq, decide_eq_false_iff_not, Bool.not_eq_true', Bool.not_eq_false', Option.isNone_iff_eq_none, beq_true, beq_false, beq_iff_eq, beq_eq_false_iff_ne, ne_eq, decide_eq_decide, Bool.not_eq_true, Bool.not_eq_false, Decidable.not_not] at h); first | skip)))
    all_goals (first | (apply d_pass 13; (case hi => rfl); (case hg => rfl); (case hn => rfl); (case hf => kernel_rfl); (case hr => kernel_rfl); (case hd => rfl)) | (apply d_takeG 13; (case hi => rfl); (case hg => rfl); (case hop => first | (apply PureOp.read; apply p_move <;> rfl)); (case hf => kernel_rfl); (case hr => kernel_rfl); (case hd => rfl)) | fail)
    all_goals (try (apply d_guardB 14; (case hi => rfl); (case hgd => rfl); (case h1 => rfl); (case h2 => first | rfl); all_goals (intro h; (try simp only [reduceCtorEq, dec_true, dec_false, decide_eq_true_eq, decide_eq_false_iff_not, Bool.not_eq_true', Bool.not_eq_false', Option.isNone_iff_eq_none, beq_true, beq_false, beq_iff_eq, beq_eq_false_iff_ne, ne_eq, decide_eq_decide, Bool.not_eq_true, Bool.not_eq_false, Decidable.not_not] at h); first | done | skip)))
    all_goals (first | (apply d_pass 14; (case hi => rfl); (case hg => rfl); (case hn => rfl); (case hf => kernel_rfl); (case hr => kernel_rfl); (case hd => rfl)) | (apply d_takeG 14; (case hi => rfl); (case hg => rfl); (case hop => first | (apply PureOp.read; apply p_move <;> rfl)); (case hf => kernel_rfl); (case hr => kernel_rfl); (case hd => rfl)) | fail)
    all_goals (try (apply d_guardB 15; (case hi => rfl); (case hgd => rfl); (case h1 => rfl); (case h2 => first | rfl); all_goals (intro h; (try simp only [reduceCtorEq, dec_true, dec_false, decide_eq_true_eq, decide_eq_false_iff_not, Bool.not_eq_true', Bool.not_eq_false', Option.isNone_iff_eq_none, beq_true, beq_false, beq_iff_eq, beq_eq_false_iff_ne, ne_eq, decide_eq_decide, Bool.not_eq_true, Bool.not_eq_false, Decidable.not_not] at h); first | done | skip)))
    all_goals (first | (apply d_pass 15; (case hi => rfl); (case hg => rfl); (case hn => rfl); (case hf => kernel_rfl); (case hr => kernel_rfl); (case hd => rfl)) | (apply d_takeG 15; (case hi => rfl); (case hg => rfl); (case hop => first | (apply PureOp.read; apply p_indexAddrS; (case hx => rfl); (case hi => rfl); (case h0 => omega); (case h => omega); (case hA => first | assumption | fail))); (case hf => kernel_rfl); (case hr => kernel_rfl); (case hd => rfl)) | fail)
    all_goals (try (apply d_guardB 16; (case hi => rfl); (case hgd => rfl); (case h1 => rfl); (case h2 => first | rfl); all_goals (intro h; (try simp only [reduceCtorEq, dec_true, dec_false, decide_eq_true_eq, decide_eq_false_iff_not, Bool.not_eq_true', Bool.not_eq_false', Option.isNone_iff_eq_none, beq_true, beq_false, beq_iff_eq, beq_eq_false_iff_ne, ne_eq, decide_eq_decide, Bool.not_eq_true, Bool.not_eq_false, Decidable.not_not] at h); first | done | skip)))
    all_goals (first | (apply d_pass 16; (case hi => rfl); (case hg => rfl); (case hn => rfl); (case hf => kernel_rfl); (case hr => kernel_rfl); (case hd => rfl)) | (apply d_takeG 16; (case hi => rfl); (case hg => rfl); (case hop => first | (apply PureOp.read; apply p_fieldAddr <;> rfl)); (case hf => kernel_rfl); (case hr => kernel_rfl); (case hd => rfl)) | fail)
    all_goals (try (apply d_guardB 17; (case hi => rfl); (case hgd => rfl); (case h1 => rfl); (case h2 => first | rfl); all_goals (intro h; (try simp only [reduceCtorEq, dec_true, dec_false, decide_eq_true_eq, decide_eq_false_iff_not, Bool.not_eq_true', Bool.not_eq_false', Option.isNone_iff_eq_none, beq_true, beq_false, beq_iff_eq, beq_eq_false_iff_ne, ne_eq, decide_eq_decide, Bool.not_eq_true, Bool.not_eq_false, Decidable.not_not] at h); first | done | skip)))
    all_goals (first | (apply d_pass 17; (case hi => rfl); (case hg => rfl); (case hn => rfl); (case hf => kernel_rfl); (case hr => kernel_rfl); (case hd => rfl)) | (apply d_takeG 17; (case hi => rfl); (case hg => rfl); (case hop => first | (apply PureOp.read; apply p_fieldAddrB <;> rfl) | fail); (case hf => kernel_rfl); (case hr => kernel_rfl); (case hd => rfl)) | fail)
    all_goals (try (apply d_guardB 18; (case hi => rfl); (case hgd => rfl); (case h1 => rfl); (case h2 => first | rfl); all_goals (intro h; (try simp only [reduceCtorEq, dec_true, dec_false, decide_eq_true_eq, decide_eq_false_iff_not, Bool.not_eq_true', Bool.not_eq_false', Option.isNone_iff_eq_none, beq_true, beq_false, beq_iff_eq, beq_eq_false_iff_ne, ne_eq, decide_eq_decide, Bool.not_eq_true, Bool.not_eq_false, Decidable.not_not] at h); first | done | skip)))
    all_goals (first | (apply d_pass 18; (case hi => rfl); (case hg => rfl); (case hn => rfl); (case hf => kernel_rfl); (case hr => kernel_rfl); (case hd => rfl)) | (apply d_takeG 18; (case hi => rfl); (case hg => rfl); (case hop => first | ((apply r_load1; rfl; exact Cell.frozen hl1)) | fail); (case hf => kernel_rfl); (case hr => kernel_rfl); (case hd => rfl)) | fail)
    all_goals (try (apply d_guardB 19; (case hi => rfl); (case hgd => rfl); (case h1 => rfl); (case h2 => first | rfl); all_goals (intro h; (try simp only [reduceCtorEq, dec_true, dec_false, decide_eq_true_eq, decide_eq_false_iff_not, Bool.not_eq_true', Bool.not_eq_false', Option.isNone_iff_eq_none, beq_true, beq_false, beq_iff_eq, beq_eq_false_iff_ne, ne_eq, decide_eq_decide, Bool.not_eq_true, Bool.not_eq_false, Decidable.not_not] at h); first | done | skip)))
    all_goals (first | (apply d_pass 19; (case hi => rfl); (case hg => rfl); (case hn => rfl); (case hf => kernel_rfl); (case hr => kernel_rfl); (case hd => rfl)) | (apply d_takeG 19; (case hi => rfl); (case hg => rfl); (case hop => first | (apply PureOp.read; apply p_move <;> rfl)); (case hf => kernel_rfl); (case hr => kernel_rfl); (case hd => rfl)) | fail)
    all_goals (try (apply d_guardB 20; (case hi => rfl); (case hgd => rfl); (case h1 => rfl); (case h2 => first | rfl); all_goals (intro h; (try simp only [reduceCtorEq, dec_true, dec_false, decide_eq_true_eq, decide_eq_false_iff_not, Bool.not_eq_true', Bool.not_eq_false', Option.isNone_iff_eq_none, beq_true, beq_false, beq_iff_eq, beq_eq_false_iff_ne, ne_eq, decide_eq_decide, Bool.not_eq_true, Bool.not_eq_false, Decidable.not_not] at h); first | done | skip)))
    all_goals (first | (apply d_pass 20; (case hi => rfl); (case hg => rfl); (case hn => rfl); (case hf => kernel_rfl); (case hr => kernel_rfl); (case hd => rfl)) | (apply d_takeG 20; (case hi => rfl); (case hg => rfl); (case hop => first | (apply PureOp.read; apply p_move <;> rfl)); (case hf => kernel_rfl); (case hr => kernel_rfl); (case hd => rfl)) | fail)
    all_goals (try (apply d_guardB 21; (case hi => rfl); (case hgd => rfl); (case h1 => rfl); (case h2 => first | rfl); all_goals (intro h; (try simp only [reduceCtorEq, dec_true, dec_false, decide_eq_true_eq, decide_eq_false_iff_not, Bool.not_eq_true', Bool.not_eq_false', Option.isNone_iff_eq_none, beq_true, beq_false, beq_iff_eq, beq_eq_false_iff_ne, ne_eq, decide_eq_decide, Bool.not_eq_true, Bool.not_eq_false, Decidable.not_not] at h); first | done | skip)))
    all_goals (first | (apply d_pass 21; (case hi => rfl); (case hg => rfl); (case hn => rfl); (case hf => kernel_rfl); (case hr => kernel_rfl); (case hd => rfl)) | (apply d_takeG 21; (case hi => rfl); (case hg => rfl); (case hop => first | (apply PureOp.read; apply p_indexAddrS; (case hx => rfl); (case hi => rfl); (case h0 => omega); (case h => omega); (case hA => first | assumption | fail))); (case hf => kernel_rfl); (case hr => kernel_rfl); (case hd => rfl)) | fail)
    all_goals (try (apply d_guardB 22; (case hi => rfl); (case hgd => rfl); (case h1 => rfl); (case h2 => first | rfl); all_goals (intro h; (try simp only [reduceCtorEq, dec_true, dec_false, decide_eq_true_eq, decide_eq_false_iff_not, Bool.not_eq_true', Bool.not_eq_false', Option.isNone_iff_eq_none, beq_true, beq_false, beq_iff_eq, beq_eq_false_iff_ne, ne_eq, decide_eq_decide, Bool.not_eq_true, Bool.not_eq_false, Decidable.not_not] at h); first | done | skip)))
    all_goals (first | (apply d_pass 22; (case hi => rfl); (case hg => rfl); (case hn => rfl); (case hf => kernel_rfl); (case hr => kernel_rfl); (case hd => rfl)) | (apply d_takeG 22; (case hi => rfl); (case hg => rfl); (case hop => first | (apply PureOp.read; apply p_fieldAddr <;> rfl)); (case hf => kernel_rfl); (case hr => kernel_rfl); (case hd => rfl)) | fail)
    all_goals (try (apply d_guardB 23; (case hi => rfl); (case hgd => rfl); (case h1 => rfl); (case h2 => first | rfl); all_goals (intro h; (try simp only [reduceCtorEq, dec_true, dec_false, decide_eq_true_eq, decide_eq_false_iff_not, Bool.not_eq_true', Bool.not_eq_false', Option.isNone_iff_eq_none, beq_true, beq_false, beq_iff_eq, beq_eq_false_iff_ne, ne_eq, decide_eq_decide, Bool.not_eq_true, Bool.not_eq_false, Decidable.not_not] at h); first | done | skip)))
    all_goals (first | (apply d_pass 23; (case hi => rfl); (case hg => rfl); (case hn => rfl); (case hf => kernel_rfl); (case hr => kernel_rfl); (case hd => rfl)) | (apply d_takeG 23; (case hi => rfl); (case hg => rfl); (case hop => first | ((apply r_load1; rfl; exact Cell.frozen hc1)) | fail); (case hf => kernel_rfl); (case hr => kernel_rfl); (case hd => rfl)) | fail)
    all_goals (try (apply d_guardB 24; (case hi => rfl); (case hgd => rfl); (case h1 => rfl); (case h2 => first | rfl); all_goals (intro h; (try simp only [reduceCtorEq, dec_true, dec_false, decide_eq_true_eq, decide_eq_false_iff_not, Bool.not_eq_true', Bool.not_eq_false', Option.isNone_iff_eq_none, beq_true, beq_false, beq_iff_eq, beq_eq_false_iff_ne, ne_eq, decide_eq_decide, Bool.not_eq_true, Bool.not_eq_false, Decidable.not_not] at h); first | done | skip)))
    all_goals (first | (apply d_pass 24; (case hi => rfl); (case hg => rfl); (case hn => rfl); (case hf => kernel_rfl); (case hr => kernel_rfl); (case hd => rfl)) | (apply d_takeG 24; (case hi => rfl); (case hg => rfl); (case hop => first | (apply PureOp.read; apply p_ne <;> rfl) | fail); (case hf => kernel_rfl); (case hr => kernel_rfl); (case hd => rfl)) | fail)
    all_goals (first | (apply d_take 25; (case hi => rfl); (case hop => first | (apply PureOp.read; apply p_pickT <;> rfl) | (apply PureOp.read; apply p_pickF <;> rfl) | fail); (case hf => kernel_rfl); (case hr => kernel_rfl); (case hd => rfl)) | fail)
    all_goals (first | (apply d_take 26; (case hi => rfl); (case hop => first | (apply PureOp.read; apply p_move <;> rfl)); (case hf => kernel_rfl); (case hr => kernel_rfl); (case hd => rfl)) | fail)
    all_goals (try (apply d_guardB 27; (case hi => rfl); (case hgd => rfl); (case h1 => rfl); (case h2 => first | rfl); all_goals (intro h; (try simp only [reduceCtorEq, dec_true, dec_false, decide_eq_true_eq, decide_eq_false_iff_not, Bool.not_eq_true', Bool.not_eq_false', Option.isNone_iff_eq_none, beq_true, beq_false, beq_iff_eq, beq_eq_false_iff_ne, ne_eq, decide_eq_decide, Bool.not_eq_true, Bool.not_eq_false, Decidable.not_not] at h); first | done | skip)))
    all_goals (first | (apply d_pass 27; (case hi => rfl); (case hg => rfl); (case hn => rfl); (case hf => kernel_rfl); (case hr => kernel_rfl); (case hd => rfl)) | (apply d_takeG 27; (case hi => rfl); (case hg => rfl); (case hop => first | (apply PureOp.read; apply p_move <;> rfl)); (case hf => kernel_rfl); (case hr => kernel_rfl); (case hd => rfl)) | fail)
    all_goals (try (apply d_guardB 28; (case hi => rfl); (case hgd => rfl); (case h1 => rfl); (case h2 => first | rfl); all_goals (intro h; (try simp only [reduceCtorEq, dec_true, dec_false, decide_eq_true_eq, decide_eq_false_iff_not, Bool.not_eq_true', Bool.not_eq_false', Option.isNone_iff_eq_none, beq_true, beq_false, beq_iff_eq, beq_eq_false_iff_ne, ne_eq, decide_eq_decide, Bool.not_eq_true, Bool.not_eq_false, Decidable.not_not] at h); first | done | skip)))
    all_goals (first | (apply d_pass 28; (case hi => rfl); (case hg => rfl); (case hn => rfl); (case hf => kernel_rfl); (case hr => kernel_rfl); (case hd => rfl)) | (apply d_takeG 28; (case hi => rfl); (case hg => rfl); (case hop => first | (apply PureOp.read; apply p_move <;> rfl)); (case hf => kernel_rfl); (case hr => kernel_rfl); (case hd => rfl)) | fail)
    all_goals (try (apply d_guardB 29; (case hi => rfl); (case hgd => rfl); (case h1 => rfl); (case h2 => first | rfl); all_goals (intro h; (try simp only [reduceCtorEq, dec_true, dec_false, decide_eq_true_eq, decide_eq_false_iff_not, Bool.not_eq_true', Bool.not_eq_false', Option.isNone_iff_eq_none, beq_true, beq_false, beq_iff_eq, beq_eq_false_iff_ne, ne_eq, decide_eq_decide, Bool.not_eq_true, Bool.not_eq_false, Decidable.not_not] at h); first | done | skip)))
    all_goals (first | (apply d_pass 29; (case hi => rfl); (case hg => rfl); (case hn => rfl); (case hf => kernel_rfl); (case hr => kernel_rfl); (case hd => rfl)) | (apply d_takeG 29; (case hi => rfl); (case hg => rfl); (case hop => first | (apply PureOp.read; apply p_indexAddrS; (case hx => rfl); (case hi => rfl); (case h0 => omega); (case h => omega); (case hA => first | assumption | fail))); (case hf => kernel_rfl); (case hr => kernel_rfl); (case hd => rfl)) | fail)
    all_goals (try (apply d_guardB 30; (case hi => rfl); (case hgd => rfl); (case h1 => rfl); (case h2 => first | rfl); all_goals (intro h; (try simp only [reduceCtorEq, dec_true, dec_false, decide_eq_true_eq, decide_eq_false_iff_not, Bool.not_eq_true', Bool.not_eq_false', Option.isNone_iff_eq_none, beq_true, beq_false, beq_iff_eq, beq_eq_false_iff_ne, ne_eq, decide_eq_decide, Bool.not_eq_true, Bool.not_eq_false, Decidable.not_not] at h); first | done | skip)))
    all_goals (first | (apply d_pass 30; (case hi => rfl); (case hg => rfl); (case hn => rfl); (case hf => kernel_rfl); (case hr => kernel_rfl); (case hd => rfl)) | (apply d_takeG 30; (case hi => rfl); (case hg => rfl); (case hop => first | (apply PureOp.read; apply p_fieldAddr <;> rfl)); (case hf => kernel_rfl); (case hr => kernel_rfl); (case hd => rfl)) | fail)
    all_goals (try (apply d_guardB 31; (case hi => rfl); (case hgd => rfl); (case h1 => rfl); (case h2 => first | rfl); all_goals (intro h; (try simp only [reduceCtorEq, dec_true, dec_false, decide_eq_true_eq, decide_eq_false_iff_not, Bool.not_eq_true', Bool.not_eq_false', Option.isNone_iff_eq_none, beq_true, beq_false, beq_iff_eq, beq_eq_false_iff_ne, ne_eq, decide_eq_decide, Bool.not_eq_true, Bool.not_eq_false, Decidable.not_not] at h); first | done | skip)))
    all_goals (first | (apply d_pass 31; (case hi => rfl); (case hg => rfl); (case hn => rfl); (case hf => kernel_rfl); (case hr => kernel_rfl); (case hd => rfl)) | (apply d_takeG 31; (case hi => rfl); (case hg => rfl); (case hop => first | ((apply r_loadN; rfl; exact CellsAt.frozen hl; rfl)) | fail); (case hf => kernel_rfl); (case hr => kernel_rfl); (case hd => rfl)) | fail)
    all_goals (try (apply d_guardB 32; (case hi => rfl); (case hgd => rfl); (case h1 => rfl); (case h2 => first | rfl); all_goals (intro h; (try simp only [reduceCtorEq, dec_true, dec_false, decide_eq_true_eq, decide_eq_false_iff_not, Bool.not_eq_true', Bool.not_eq_false', Option.isNone_iff_eq_none, beq_true, beq_false, beq_iff_eq, beq_eq_false_iff_ne, ne_eq, decide_eq_decide, Bool.not_eq_true, Bool.not_eq_false, Decidable.not_not] at h); first | done | skip)))
    all_goals (first | (apply d_pass 32; (case hi => rfl); (case hg => rfl); (case hn => rfl); (case hf => kernel_rfl); (case hr => kernel_rfl); (case hd => rfl)) | (apply d_callJG 32 (hs := qa); (case hi => rfl); (case hg => rfl); (case hr => kernel_rfl); (case ha => rfl); (case hd => rfl)) | fail)
    all_goals (try (apply d_guardB 33; (case hi => rfl); (case hgd => rfl); (case h1 => rfl); (case h2 => first | rfl); all_goals (intro h; (try simp only [reduceCtorEq, dec_true, dec_false, decide_eq_true_eq, decide_eq_false_iff_not, Bool.not_eq_true', Bool.not_eq_false', Option.isNone_iff_eq_none, beq_true, beq_false, beq_iff_eq, beq_eq_false_iff_ne, ne_eq, decide_eq_decide, Bool.not_eq_true, Bool.not_eq_false, Decidable.not_not] at h); first | done | skip)))
    all_goals (first | (apply d_pass 33; (case hi => rfl); (case hg => rfl); (case hn => rfl); (case hf => kernel_rfl); (case hr => kernel_rfl); (case hd => rfl)) | (apply d_takeG 33; (case hi => rfl); (case hg => rfl); (case hop => first | (apply PureOp.read; apply p_ne <;> rfl) | fail); (case hf => kernel_rfl); (case hr => kernel_rfl); (case hd => rfl)) | fail)
    all_goals (first | (apply d_take 34; (case hi => rfl); (case hop => first | (apply PureOp.read; apply p_pickT <;> rfl) | (apply PureOp.read; apply p_pickF <;> rfl) | fail); (case hf => kernel_rfl); (case hr => kernel_rfl); (case hd => rfl)) | fail)
    all_goals (apply d_done; (case hr => kernel_rfl))
    repeat' (first | apply v_seq | apply v_region | apply v_nil | apply v_skip | apply v_blk | (apply v_pure; (case hop => first | (apply p_move <;> rfl) | (apply p_assign <;> rfl) | (apply p_add; (case hx => rfl); (case hy => rfl); (case h => omega)) | fail); (case hd => rfl)) | (apply v_condT; (case hc => rfl)) | (apply v_cond; (case hc => rfl); all_goals (intro h; (try simp only [reduceCtorEq, dec_true, dec_false, decide_eq_true_eq, decide_eq_false_iff_not, Bool.not_eq_true', Bool.not_eq_false', Option.isNone_iff_eq_none, beq_true, beq_false, beq_iff_eq, beq_eq_false_iff_ne, ne_eq, decide_eq_decide, Bool.not_eq_true, Bool.not_eq_false, Decidable.not_not] at h); first | skip)) | fail)
    all_goals first
      | (refine v_again rfl ⟨rfl, rfl, k + 1, by omega, rfl, hnx ⟨by omega, by omega, by omega⟩⟩ (by simp [headI]; omega))
      | (refine v_ret [] (outsA1 rfl rfl) (by repeat (first | exact List.Sublist.refl _ | fail)) ?_
         refine ⟨?_, rfl⟩
         rw [decide_eq_false]
         intro ho
         refine hin False ho ?_
         rintro ⟨a2, a3, a4⟩
         omega)
  · have hone : decide (AdjS l) = decide (SesP l) := by
      rw [decide_eq_decide]
      exact ⟨fun h => ⟨h, fun x hx => by
        obtain ⟨i, hi, rfl⟩ := List.getElem_of_mem hx
        exact hno i hi (by omega)⟩, fun h => h.1⟩
    rw [hone] at qr
    repeat' (first | apply v_seq | apply v_region | apply v_nil | (apply v_exit; (case hp => rfl)) | (apply v_pure; (case hop => first | (apply p_move <;> rfl) | (apply p_lt <;> rfl) | (apply p_assign <;> rfl) | (apply p_lenSlice <;> rfl) | fail); (case hd => rfl)) | (apply v_cond; (case hc => rfl); all_goals (intro h; (try simp only [reduceCtorEq, dec_true, dec_false, decide_eq_true_eq, decide_eq_false_iff_not, Bool.not_eq_true', Bool.not_eq_false', Option.isNone_iff_eq_none, beq_true, beq_false, beq_iff_eq, beq_eq_false_iff_ne, ne_eq, decide_eq_decide, Bool.not_eq_true, Bool.not_eq_false, Decidable.not_not] at h); first | (exfalso; omega) | skip)) | (apply v_callJ (hs := qr); (case ha => rfl); (case hd => rfl)) | fail)
    all_goals
      (refine v_ret [] (outsA1 rfl rfl) (by repeat (first | exact List.Sublist.refl _ | fail)) ?_
       refine ⟨?_, rfl⟩
       first | rfl | fail)
theorem psOk_iff {z : Int} {l : List Pr} : PsOk z l ↔ (l.length ≤ 64 ∧ AdjP l) ∧ ∀ i (h : i < l.length), PrOk l[i] ∧ RevOk z l[i] := by
  unfold PsOk
  rw [← riseG_pw]
  constructor
  · rintro ⟨h1, h2, h3⟩
    exact ⟨⟨h1, rise_adj h2⟩, fun i h => h3 _ (List.getElem_mem h)⟩
  · rintro ⟨⟨h1, h2⟩, h3⟩
    exact ⟨h1, adj_rise h2, fun x hx => by
      obtain ⟨i, hi, rfl⟩ := List.getElem_of_mem hx
      exact h3 i hi⟩
noncomputable instance (z : Int) (l : List Pr) : Decidable (PsOk z l) := Classical.propDecidable _
set_option maxHeartbeats 1000000 in
theorem refPCheck_s {G : GH} {l : List Pr} {sv : Value} (z : Int) (hz2 : z = 1 ∨ z = 2) (hs : Prs G sv l) (hz : Sized l) : Con Tryz.prog 24 #[.int .i64 z, sv] G [] (Just (.bool (decide (PsOk z l))) G) := by
  have qr := refPRise_s hs hz
  obtain ⟨A, c, rfl, hlc, hcm, hsome, hcp⟩ := rowOpen hs
  simp only [maxLen] at hcm
  apply Con.just
  (refine v_enter Tryz.func24 rfl Tryz.ntmps24 rfl ?_; intro B _)
  repeat' (first | apply v_seq | apply v_region | apply v_nil | apply v_block | (apply v_pure; (case hop => first | (apply p_assign <;> rfl) | fail); (case hd => rfl)) | fail)
  refine v_loop [5, 1, 0] (fun us G' μ' => G' = G ∧ μ' = [] ∧ ∃ k : Nat, k ≤ l.length ∧ us = [Value.int .i64 (k : Nat), .slice A l.length c, .int .i64 z] ∧ ∀ i (h : i < l.length), i < k → PrOk l[i] ∧ RevOk z l[i]) (fun us => l.length - (headI us).toNat) rfl ⟨rfl, rfl, 0, by omega, rfl, by omega⟩ ?_
  rintro us G' _ ⟨rfl, rfl, k, hk, rfl, hno⟩
  by_cases hlt : k < l.length
  · have e1 : ((k : Nat) : Int).toNat = k := by omega
    have hA := hsome (by omega)
    have hck := hcp k hlt
    have hz1 := hz _ (List.getElem_mem hlt)
    have hin : PsOk z l → PrOk l[k] ∧ RevOk z l[k] := fun h => (psOk_iff.1 h).2 k hlt
    have hnx : PrOk l[k] ∧ RevOk z l[k] → ∀ i (h : i < l.length), i < k + 1 → PrOk l[i] ∧ RevOk z l[i] := fun a2 i hi hik => by
      by_cases e : i = k
      · subst e
        exact a2
      · exact hno i hi (by omega)
    have qk := refKey_s (G := G') (s := (l[k]).key) (by omega)
    have qv := refVal_s (G := G') (s := (l[k]).val) (by omega)
    generalize l[k] = x at *
    obtain ⟨key, val, rev⟩ := x
    unfold PrOk RevOk at hin hnx
    simp only at *
    have hc0 := hck.cell (j := 0) rfl
    have hc1 := hck.cell (j := 1) rfl
    have hc2 := hck.cell (j := 2) rfl
    generalize hkb : keyB key = kb at *
    generalize hvb : valB val = vb at *
    rcases hz2 with rfl | rfl
    all_goals
      repeat' (first | apply v_seq | apply v_region | apply v_nil | apply v_skip | apply v_block | apply v_blk | (apply v_take; (case hg => rfl)) | (apply v_pass; (case hg => rfl); (case hn => rfl); (case hd => rfl)) | (apply v_passN; (case hg => rfl); (case hn => rfl); (case hd => rfl)) | (apply v_pure; (case hop => first | (apply p_move <;> rfl) | (apply p_eqs <;> rfl) | (apply p_eq <;> rfl) | (apply p_lt <;> rfl) | (apply p_gt <;> rfl) | (apply p_ne <;> rfl) | (apply p_assign <;> rfl) | (apply p_pickT <;> rfl) | (apply p_pickF <;> rfl) | (apply p_not <;> rfl) | (apply p_lenSlice <;> rfl) | (apply p_fieldAddr <;> rfl) | (apply p_add; (case hx => rfl); (case hy => rfl); (case h => omega)) | (apply p_indexAddrS; (case hx => rfl); (case hi => rfl); (case h0 => omega); (case h => omega); (case hA => first | assumption | fail)) | fail); (case hd => rfl)) | (apply v_condT; (case hc => rfl)) | (apply v_condF; (case hc => rfl)) | (apply v_cond; (case hc => rfl); all_goals (intro h; (try simp only [reduceCtorEq, dec_true, dec_false, decide_eq_true_eq, decide_eq_false_iff_not, Bool.not_eq_true', Bool.not_eq_false', Option.isNone_iff_eq_none, beq_true, beq_false, beq_iff_eq, beq_eq_false_iff_ne, ne_eq, decide_eq_decide, Bool.not_eq_true, Bool.not_eq_false, Decidable.not_not] at h); first | (exfalso; omega) | skip)) | (apply v_guardB; (case h1 => rfl); (case h2 => rfl); all_goals (intro h; (try simp only [reduceCtorEq, dec_true, dec_false, decide_eq_true_eq, decide_eq_false_iff_not, Bool.not_eq_true', Bool.not_eq_false', Option.isNone_iff_eq_none, beq_true, beq_false, beq_iff_eq, beq_eq_false_iff_ne, ne_eq, decide_eq_decide, Bool.not_eq_true, Bool.not_eq_false, Decidable.not_not] at h); first | (exfalso; omega) | skip)) | (apply v_read; (case hop => (apply r_load1; rfl; exact Cell.frozen hc0)); (case hd => rfl)) | (apply v_read; (case hop => (apply r_load1; rfl; exact Cell.frozen hc1)); (case hd => rfl)) | (apply v_read; (case hop => (apply r_load1; rfl; exact Cell.frozen hc2)); (case hd => rfl)) | (apply v_callJ (hs := qk); (case ha => rfl); (case hd => rfl)) | (apply v_callJ (hs := qv); (case ha => rfl); (case hd => rfl)) | fail)
    all_goals first
      | (refine v_again rfl ⟨rfl, rfl, k + 1, by omega, rfl, hnx ⟨⟨by first | assumption | rfl, by first | assumption | fail⟩, by omega⟩⟩ (by simp [headI]; omega))
      | (refine v_ret [] (outsA1 rfl rfl) (by repeat (first | exact List.Sublist.refl _ | fail)) ?_
         refine ⟨?_, rfl⟩
         rw [decide_eq_false]
         intro ho
         obtain ⟨⟨a1, a2⟩, a3⟩ := hin ho
         first
           | omega
           | (simp_all; done))
  · have hone : (l.length ≤ 64 ∧ AdjP l) ↔ PsOk z l := ⟨fun h => psOk_iff.2 ⟨h, fun i hi => hno i hi (by omega)⟩, fun h => (psOk_iff.1 h).1⟩
    by_cases ha : AdjP l
    all_goals
      (first | rw [decide_eq_true ha] at qr | rw [decide_eq_false ha] at qr)
      repeat' (first | apply v_seq | apply v_region | apply v_nil | (apply v_exit; (case hp => rfl)) | (apply v_take; (case hg => rfl)) | (apply v_pass; (case hg => rfl); (case hn => rfl); (case hd => rfl)) | (apply v_pure; (case hop => first | (apply p_move <;> rfl) | (apply p_lt <;> rfl) | (apply p_le <;> rfl) | (apply p_assign <;> rfl) | (apply p_pickT <;> rfl) | (apply p_pickF <;> rfl) | (apply p_lenSlice <;> rfl) | fail); (case hd => rfl)) | (apply v_cond; (case hc => rfl); all_goals (intro h; (try simp only [reduceCtorEq, dec_true, dec_false, decide_eq_true_eq, decide_eq_false_iff_not, Bool.not_eq_true', Bool.not_eq_false', Option.isNone_iff_eq_none, beq_true, beq_false, beq_iff_eq, beq_eq_false_iff_ne, ne_eq, decide_eq_decide, Bool.not_eq_true, Bool.not_eq_false, Decidable.not_not] at h); first | (exfalso; omega) | skip)) | (apply v_guardB; (case h1 => rfl); (case h2 => rfl); all_goals (intro h; (try simp only [reduceCtorEq, dec_true, dec_false, decide_eq_true_eq, decide_eq_false_iff_not, Bool.not_eq_true', Bool.not_eq_false', Option.isNone_iff_eq_none, beq_true, beq_false, beq_iff_eq, beq_eq_false_iff_ne, ne_eq, decide_eq_decide, Bool.not_eq_true, Bool.not_eq_false, Decidable.not_not] at h); first | skip)) | (apply v_callJ (hs := qr); (case ha => rfl); (case hd => rfl)) | fail)
    all_goals
      (refine v_ret [] (outsA1 rfl rfl) (by repeat (first | exact List.Sublist.refl _ | fail)) ?_
       refine ⟨?_, rfl⟩
       first
         | (rw [decide_eq_true (hone.1 ⟨by omega, ha⟩)]; done)
         | (rw [decide_eq_false (fun h => by have := hone.2 h; omega)]; done)
         | (rw [decide_eq_false (fun h => ha (hone.2 h).2)]; done))
end Go.Proofs.YtgflmkhfachlcaaGreatDoor
/-
  The references 22, 23, 25, 28: what is large; states that may be.
-/
set_option linter.unusedSimpArgs false
set_option linter.unusedVariables false
namespace Go.Proofs.YtgflmkhfachlcaaGreatDoor
open Go.Vx Go.ChangeShapes Go.WideShapes Go.ChangeAt Go.RowKit
def Lg (p : Prop) (G : GH) : Value → GH → OH → Prop := fun r G' μ' => G' = G ∧ μ' = [] ∧ ∃ b, r = .bool b ∧ (b = false → p)
theorem lastAt {G : GH} {a : Addr} {x : Ss} (h : CellsG G a x.cells) : CellsG G (a.add 2) x.last.cells := fun j v hv => by
  rw [add_add]
  refine h (2 + j) v ?_
  rw [Nat.add_comm]
  exact hv
theorem lg22_s {G : GH} {l : List Ss} {sv : Value} (hs : Sss G sv l) : Con Tryz.prog 19 #[sv] G [] (Lg (l.length ≤ 40 ∧ SizedS l) G) := by
  obtain ⟨A, c, rfl, hlc, hcm, hsome, hcp⟩ := rowOpen hs
  simp only [maxLen] at hcm
  (refine v_enter Tryz.func19 rfl Tryz.ntmps19 rfl ?_; intro B _)
  repeat' (first | apply v_seq | apply v_region | apply v_nil | apply v_block | (apply v_pure; (case hop => first | (apply p_assign <;> rfl) | fail); (case hd => rfl)) | fail)
  refine v_loop [3, 0] (fun us G' μ' => G' = G ∧ μ' = [] ∧ ∃ k : Nat, k ≤ l.length ∧ us = [Value.int .i64 (k : Nat), .slice A l.length c] ∧ ∀ i (h : i < l.length), i < k → l[i].last.val.size ≤ 200) (fun us => l.length - (headI us).toNat) rfl ⟨rfl, rfl, 0, by omega, rfl, by omega⟩ ?_
  rintro us G' _ ⟨rfl, rfl, k, hk, rfl, hno⟩
  have hend : 40 ≤ k ∨ l.length ≤ k → l.length ≤ 40 → l.length ≤ 40 ∧ SizedS l := fun h1 h2 => ⟨h2, fun x hx => by
    obtain ⟨i, hi, rfl⟩ := List.getElem_of_mem hx
    exact hno i hi (by omega)⟩
  by_cases hlt : k < l.length
  · have e1 : ((k : Nat) : Int).toNat = k := by omega
    have hA := hsome (by omega)
    have hc := (lastAt (hcp k hlt)).cell (j := 4) rfl
    have hnx : (l[k]).last.val.size ≤ 200 → ∀ i (h : i < l.length), i < k + 1 → l[i].last.val.size ≤ 200 := fun a2 i hi hik => by
      by_cases e : i = k
      · subst e; exact a2
      · exact hno i hi (by omega)
    generalize (l[k]).last.val = x at *
    repeat' (first | apply v_seq | apply v_region | apply v_nil | apply v_skip | apply v_block | apply v_blk | (apply v_exit; (case hp => rfl)) | (apply v_take; (case hg => rfl)) | (apply v_pure; (case hop => first | (apply p_move <;> rfl) | (apply p_lt <;> rfl) | (apply p_gt <;> rfl) | (apply p_assign <;> rfl) | (apply p_pickT <;> rfl) | (apply p_lenSlice <;> rfl) | (apply p_fieldAddrB <;> rfl) | (apply p_fieldAddr <;> rfl) | (apply p_add; (case hx => rfl); (case hy => rfl); (case h => omega)) | (apply p_indexAddrS; (case hx => rfl); (case hi => rfl); (case h0 => omega); (case h => omega); (case hA => first | assumption | fail)) | (apply p_lenString <;> rfl) | fail); (case hd => rfl)) | (apply v_cond; (case hc => rfl); all_goals (intro h; (try simp only [reduceCtorEq, dec_true, dec_false, decide_eq_true_eq, decide_eq_false_iff_not, Bool.not_eq_true', Bool.not_eq_false', Option.isNone_iff_eq_none, beq_true, beq_false, beq_iff_eq, beq_eq_false_iff_ne, ne_eq, decide_eq_decide, Bool.not_eq_true, Bool.not_eq_false, Decidable.not_not] at h); first | skip)) | (apply v_guardB; (case h1 => rfl); (case h2 => rfl); all_goals (intro h; (try simp only [reduceCtorEq, dec_true, dec_false, decide_eq_true_eq, decide_eq_false_iff_not, Bool.not_eq_true', Bool.not_eq_false', Option.isNone_iff_eq_none, beq_true, beq_false, beq_iff_eq, beq_eq_false_iff_ne, ne_eq, decide_eq_decide, Bool.not_eq_true, Bool.not_eq_false, Decidable.not_not] at h); first | (exfalso; omega) | skip)) | (apply v_read; (case hop => (apply r_load1; rfl; exact Cell.frozen hc)); (case hd => rfl)) | fail)
    all_goals first
      | (refine v_again rfl ⟨rfl, rfl, k + 1, by omega, rfl, hnx (by omega)⟩ (by simp [headI]; omega))
      | (refine v_ret [] (outsA1 rfl rfl) (by repeat (first | exact List.Sublist.refl _ | fail)) ?_
         exact ⟨rfl, rfl, _, rfl, fun h => by first | cases h | exact hend (by omega) (by first | (rw [dec_eq, decide_eq_false_iff_not] at h; omega) | fail)⟩)
  · repeat' (first | apply v_seq | apply v_region | apply v_nil | (apply v_exit; (case hp => rfl)) | (apply v_pass; (case hg => rfl); (case hn => rfl); (case hd => rfl)) | (apply v_pure; (case hop => first | (apply p_move <;> rfl) | (apply p_lt <;> rfl) | (apply p_gt <;> rfl) | (apply p_assign <;> rfl) | (apply p_pickF <;> rfl) | (apply p_lenSlice <;> rfl) | fail); (case hd => rfl)) | (apply v_condF; (case hc => rfl)) | (apply v_guardB; (case h1 => rfl); (case h2 => rfl); all_goals (intro h; (try simp only [reduceCtorEq, dec_true, dec_false, decide_eq_true_eq, decide_eq_false_iff_not, Bool.not_eq_true', Bool.not_eq_false', Option.isNone_iff_eq_none, beq_true, beq_false, beq_iff_eq, beq_eq_false_iff_ne, ne_eq, decide_eq_decide, Bool.not_eq_true, Bool.not_eq_false, Decidable.not_not] at h); first | (exfalso; omega) | skip)) | fail)
    all_goals
      (refine v_ret [] (outsA1 rfl rfl) (by repeat (first | exact List.Sublist.refl _ | fail)) ?_
       exact ⟨rfl, rfl, _, rfl, fun h => by first | exact hend (by omega) (by first | (rw [dec_eq, decide_eq_false_iff_not] at h; omega) | fail)⟩)
theorem lg23_s {G : GH} {l : List Pr} {sv : Value} (hs : Prs G sv l) : Con Tryz.prog 20 #[sv] G [] (Lg (l.length ≤ 80 ∧ Sized l) G) := by
  obtain ⟨A, c, rfl, hlc, hcm, hsome, hcp⟩ := rowOpen hs
  simp only [maxLen] at hcm
  (refine v_enter Tryz.func20 rfl Tryz.ntmps20 rfl ?_; intro B _)
  repeat' (first | apply v_seq | apply v_region | apply v_nil | apply v_block | (apply v_pure; (case hop => first | (apply p_assign <;> rfl) | fail); (case hd => rfl)) | fail)
  refine v_loop [3, 0] (fun us G' μ' => G' = G ∧ μ' = [] ∧ ∃ k : Nat, k ≤ l.length ∧ us = [Value.int .i64 (k : Nat), .slice A l.length c] ∧ ∀ i (h : i < l.length), i < k → l[i].key.size ≤ 200 ∧ l[i].val.size ≤ 200) (fun us => l.length - (headI us).toNat) rfl ⟨rfl, rfl, 0, by omega, rfl, by omega⟩ ?_
  rintro us G' _ ⟨rfl, rfl, k, hk, rfl, hno⟩
  have hend : 80 ≤ k ∨ l.length ≤ k → l.length ≤ 80 → l.length ≤ 80 ∧ Sized l := fun h1 h2 => ⟨h2, fun x hx => by
    obtain ⟨i, hi, rfl⟩ := List.getElem_of_mem hx
    exact hno i hi (by omega)⟩
  by_cases hlt : k < l.length
  · have e1 : ((k : Nat) : Int).toNat = k := by omega
    have hA := hsome (by omega)
    have hc0 := (hcp k hlt).cell (j := 0) rfl
    have hc1 := (hcp k hlt).cell (j := 1) rfl
    have hnx : (l[k]).key.size ≤ 200 ∧ (l[k]).val.size ≤ 200 → ∀ i (h : i < l.length), i < k + 1 → l[i].key.size ≤ 200 ∧ l[i].val.size ≤ 200 := fun a2 i hi hik => by
      by_cases e : i = k
      · subst e; exact a2
      · exact hno i hi (by omega)
    generalize (l[k]).key = x at *
    generalize (l[k]).val = y at *
    repeat' (first | apply v_seq | apply v_region | apply v_nil | apply v_skip | apply v_block | apply v_blk | (apply v_exit; (case hp => rfl)) | (apply v_take; (case hg => rfl)) | (apply v_pass; (case hg => rfl); (case hn => rfl); (case hd => rfl)) | (apply v_pure; (case hop => first | (apply p_move <;> rfl) | (apply p_lt <;> rfl) | (apply p_gt <;> rfl) | (apply p_assign <;> rfl) | (apply p_pickT <;> rfl) | (apply p_pickF <;> rfl) | (apply p_lenSlice <;> rfl) | (apply p_fieldAddr <;> rfl) | (apply p_add; (case hx => rfl); (case hy => rfl); (case h => omega)) | (apply p_indexAddrS; (case hx => rfl); (case hi => rfl); (case h0 => omega); (case h => omega); (case hA => first | assumption | fail)) | (apply p_lenString <;> rfl) | fail); (case hd => rfl)) | (apply v_condT; (case hc => rfl)) | (apply v_cond; (case hc => rfl); all_goals (intro h; (try simp only [reduceCtorEq, dec_true, dec_false, decide_eq_true_eq, decide_eq_false_iff_not, Bool.not_eq_true', Bool.not_eq_false', Option.isNone_iff_eq_none, beq_true, beq_false, beq_iff_eq, beq_eq_false_iff_ne, ne_eq, decide_eq_decide, Bool.not_eq_true, Bool.not_eq_false, Decidable.not_not] at h); first | skip)) | (apply v_guardB; (case h1 => rfl); (case h2 => rfl); all_goals (intro h; (try simp only [reduceCtorEq, dec_true, dec_false, decide_eq_true_eq, decide_eq_false_iff_not, Bool.not_eq_true', Bool.not_eq_false', Option.isNone_iff_eq_none, beq_true, beq_false, beq_iff_eq, beq_eq_false_iff_ne, ne_eq, decide_eq_decide, Bool.not_eq_true, Bool.not_eq_false, Decidable.not_not] at h); first | (exfalso; omega) | skip)) | (apply v_read; (case hop => (apply r_load1; rfl; exact Cell.frozen hc0)); (case hd => rfl)) | (apply v_read; (case hop => (apply r_load1; rfl; exact Cell.frozen hc1)); (case hd => rfl)) | fail)
    all_goals first
      | (refine v_again rfl ⟨rfl, rfl, k + 1, by omega, rfl, hnx (by omega)⟩ (by simp [headI]; omega))
      | (refine v_ret [] (outsA1 rfl rfl) (by repeat (first | exact List.Sublist.refl _ | fail)) ?_
         exact ⟨rfl, rfl, _, rfl, fun h => by first | cases h | exact hend (by omega) (by first | (rw [dec_eq, decide_eq_false_iff_not] at h; omega) | fail)⟩)
  · repeat' (first | apply v_seq | apply v_region | apply v_nil | (apply v_exit; (case hp => rfl)) | (apply v_pass; (case hg => rfl); (case hn => rfl); (case hd => rfl)) | (apply v_pure; (case hop => first | (apply p_move <;> rfl) | (apply p_lt <;> rfl) | (apply p_gt <;> rfl) | (apply p_assign <;> rfl) | (apply p_pickF <;> rfl) | (apply p_lenSlice <;> rfl) | fail); (case hd => rfl)) | (apply v_condF; (case hc => rfl)) | (apply v_guardB; (case h1 => rfl); (case h2 => rfl); all_goals (intro h; (try simp only [reduceCtorEq, dec_true, dec_false, decide_eq_true_eq, decide_eq_false_iff_not, Bool.not_eq_true', Bool.not_eq_false', Option.isNone_iff_eq_none, beq_true, beq_false, beq_iff_eq, beq_eq_false_iff_ne, ne_eq, decide_eq_decide, Bool.not_eq_true, Bool.not_eq_false, Decidable.not_not] at h); first | (exfalso; omega) | skip)) | fail)
    all_goals
      (refine v_ret [] (outsA1 rfl rfl) (by repeat (first | exact List.Sublist.refl _ | fail)) ?_
       exact ⟨rfl, rfl, _, rfl, fun h => by first | exact hend (by omega) (by first | (rw [dec_eq, decide_eq_false_iff_not] at h; omega) | fail)⟩)
def CmsS (l : List Cm) : Prop := l.length ≤ 60 ∧ ∀ c ∈ l, c.key.size ≤ 200 ∧ c.val.size ≤ 200 ∧ c.old.size ≤ 200
theorem lg28_s {G : GH} {l : List Cm} {sv : Value} (hs : Cms G sv l) : Con Tryz.prog 7 #[sv] G [] (Lg (CmsS l) G) := by
  obtain ⟨A, c, rfl, hlc, hcm, hsome, hcp⟩ := rowOpen hs
  simp only [maxLen] at hcm
  (refine v_enter Tryz.func7 rfl Tryz.ntmps7 rfl ?_; intro B _)
  repeat' (first | apply v_seq | apply v_region | apply v_nil | apply v_block | (apply v_pure; (case hop => first | (apply p_assign <;> rfl) | fail); (case hd => rfl)) | fail)
  refine v_loop [3, 0] (fun us G' μ' => G' = G ∧ μ' = [] ∧ ∃ k : Nat, k ≤ l.length ∧ us = [Value.int .i64 (k : Nat), .slice A l.length c] ∧ ∀ i (h : i < l.length), i < k → l[i].key.size ≤ 200 ∧ l[i].val.size ≤ 200 ∧ l[i].old.size ≤ 200) (fun us => l.length - (headI us).toNat) rfl ⟨rfl, rfl, 0, by omega, rfl, by omega⟩ ?_
  rintro us G' _ ⟨rfl, rfl, k, hk, rfl, hno⟩
  have hend : 60 ≤ k ∨ l.length ≤ k → l.length ≤ 60 → CmsS l := fun h1 h2 => ⟨h2, fun x hx => by
    obtain ⟨i, hi, rfl⟩ := List.getElem_of_mem hx
    exact hno i hi (by omega)⟩
  by_cases hlt : k < l.length
  · have e1 : ((k : Nat) : Int).toNat = k := by omega
    have hA := hsome (by omega)
    have hc0 := (hcp k hlt).cell (j := 3) rfl
    have hc1 := (hcp k hlt).cell (j := 4) rfl
    have hc2 := (hcp k hlt).cell (j := 5) rfl
    have hnx : (l[k]).key.size ≤ 200 ∧ (l[k]).val.size ≤ 200 ∧ (l[k]).old.size ≤ 200 → ∀ i (h : i < l.length), i < k + 1 → l[i].key.size ≤ 200 ∧ l[i].val.size ≤ 200 ∧ l[i].old.size ≤ 200 := fun a2 i hi hik => by
      by_cases e : i = k
      · subst e; exact a2
      · exact hno i hi (by omega)
    generalize (l[k]).key = x at *
    generalize (l[k]).val = y at *
    generalize (l[k]).old = z at *
    repeat' (first | apply v_seq | apply v_region | apply v_nil | apply v_skip | apply v_block | apply v_blk | (apply v_exit; (case hp => rfl)) | (apply v_take; (case hg => rfl)) | (apply v_pass; (case hg => rfl); (case hn => rfl); (case hd => rfl)) | (apply v_pure; (case hop => first | (apply p_move <;> rfl) | (apply p_lt <;> rfl) | (apply p_gt <;> rfl) | (apply p_assign <;> rfl) | (apply p_pickT <;> rfl) | (apply p_pickF <;> rfl) | (apply p_lenSlice <;> rfl) | (apply p_fieldAddr <;> rfl) | (apply p_add; (case hx => rfl); (case hy => rfl); (case h => omega)) | (apply p_indexAddrS; (case hx => rfl); (case hi => rfl); (case h0 => omega); (case h => omega); (case hA => first | assumption | fail)) | (apply p_lenString <;> rfl) | fail); (case hd => rfl)) | (apply v_condT; (case hc => rfl)) | (apply v_cond; (case hc => rfl); all_goals (intro h; (try simp only [reduceCtorEq, dec_true, dec_false, decide_eq_true_eq, decide_eq_false_iff_not, Bool.not_eq_true', Bool.not_eq_false', Option.isNone_iff_eq_none, beq_true, beq_false, beq_iff_eq, beq_eq_false_iff_ne, ne_eq, decide_eq_decide, Bool.not_eq_true, Bool.not_eq_false, Decidable.not_not] at h); first | skip)) | (apply v_guardB; (case h1 => rfl); (case h2 => rfl); all_goals (intro h; (try simp only [reduceCtorEq, dec_true, dec_false, decide_eq_true_eq, decide_eq_false_iff_not, Bool.not_eq_true', Bool.not_eq_false', Option.isNone_iff_eq_none, beq_true, beq_false, beq_iff_eq, beq_eq_false_iff_ne, ne_eq, decide_eq_decide, Bool.not_eq_true, Bool.not_eq_false, Decidable.not_not] at h); first | (exfalso; omega) | skip)) | (apply v_read; (case hop => (apply r_load1; rfl; exact Cell.frozen hc0)); (case hd => rfl)) | (apply v_read; (case hop => (apply r_load1; rfl; exact Cell.frozen hc1)); (case hd => rfl)) | (apply v_read; (case hop => (apply r_load1; rfl; exact Cell.frozen hc2)); (case hd => rfl)) | fail)
    all_goals first
      | (refine v_again rfl ⟨rfl, rfl, k + 1, by omega, rfl, hnx (by omega)⟩ (by simp [headI]; omega))
      | (refine v_ret [] (outsA1 rfl rfl) (by repeat (first | exact List.Sublist.refl _ | fail)) ?_
         exact ⟨rfl, rfl, _, rfl, fun h => by first | cases h | exact hend (by omega) (by first | (rw [dec_eq, decide_eq_false_iff_not] at h; omega) | fail)⟩)
  · repeat' (first | apply v_seq | apply v_region | apply v_nil | (apply v_exit; (case hp => rfl)) | (apply v_pass; (case hg => rfl); (case hn => rfl); (case hd => rfl)) | (apply v_pure; (case hop => first | (apply p_move <;> rfl) | (apply p_lt <;> rfl) | (apply p_gt <;> rfl) | (apply p_assign <;> rfl) | (apply p_pickF <;> rfl) | (apply p_lenSlice <;> rfl) | fail); (case hd => rfl)) | (apply v_condF; (case hc => rfl)) | (apply v_guardB; (case h1 => rfl); (case h2 => rfl); all_goals (intro h; (try simp only [reduceCtorEq, dec_true, dec_false, decide_eq_true_eq, decide_eq_false_iff_not, Bool.not_eq_true', Bool.not_eq_false', Option.isNone_iff_eq_none, beq_true, beq_false, beq_iff_eq, beq_eq_false_iff_ne, ne_eq, decide_eq_decide, Bool.not_eq_true, Bool.not_eq_false, Decidable.not_not] at h); first | (exfalso; omega) | skip)) | fail)
    all_goals
      (refine v_ret [] (outsA1 rfl rfl) (by repeat (first | exact List.Sublist.refl _ | fail)) ?_
       exact ⟨rfl, rfl, _, rfl, fun h => by first | exact hend (by omega) (by first | (rw [dec_eq, decide_eq_false_iff_not] at h; omega) | fail)⟩)
theorem lg25_s {G : GH} {s : St} {v : Value} (hs : StV G s v) : Con Tryz.prog 6 #[v] G [] (Lg ((s.sess.length ≤ 40 ∧ SizedS s.sess) ∧ s.pairs.length ≤ 80 ∧ Sized s.pairs) G) := by
  obtain ⟨A, c, A', c', rfl, hp, hss⟩ := id hs
  have q1 := lg22_s hss
  have q2 := lg23_s hp
  obtain ⟨schema, lp, ls⟩ := s
  simp only at *
  generalize hpl : lp.length = pl at *
  generalize hsl : ls.length = sl at *
  (refine v_enter Tryz.func6 rfl Tryz.ntmps6 rfl ?_; intro B _)
  repeat' (first | (apply v_box (zs := [.int .i64 schema, .slice A pl c, .slice A' sl c']); (case hx => rfl); (case hz => rfl); (case hd => rfl); intro b) | apply v_seq | apply v_region | apply v_nil | (apply v_pure; (case hop => first | (apply p_assign <;> rfl) | (apply p_fieldAddrB <;> rfl) | fail); (case hd => rfl)) | (apply v_read; (case hop => first | (apply r_load1; rfl; (apply Cell.own; (case h => (repeat (first | exact List.Mem.head _ | fail))); rfl)) | fail); (case hd => rfl)) | fail)
  refine v_call (μ1 := []) rfl q1 (List.Perm.refl _) rfl ?_
  rintro _ G1 _ - ⟨hG1, rfl, b1, rfl, h1⟩
  subst hG1
  cases b1 with
  | true =>
    repeat' (first | apply v_nil | (apply v_pass; (case hg => rfl); (case hn => rfl); (case hd => rfl)) | (apply v_pure; (case hop => first | (apply p_move <;> rfl) | (apply p_assign <;> rfl) | (apply p_pickT <;> rfl) | fail); (case hd => rfl)) | fail)
    refine v_ret [] (outsA1 rfl rfl) (by repeat (first | exact List.nil_sublist _ | fail)) ?_
    exact ⟨rfl, rfl, _, rfl, fun h => by cases h⟩
  | false =>
    repeat' (first | (apply v_take; (case hg => rfl)) | (apply v_pure; (case hop => first | (apply p_move <;> rfl) | (apply p_fieldAddrB <;> rfl) | fail); (case hd => rfl)) | (apply v_read; (case hop => first | (apply r_load1; rfl; (apply Cell.own; (case h => (repeat (first | exact List.Mem.head _ | fail))); rfl)) | fail); (case hd => rfl)) | fail)
    refine v_call (μ1 := []) rfl q2 (List.Perm.refl _) rfl ?_
    rintro _ G1 _ - ⟨hG1, rfl, b2, rfl, h2⟩
    subst hG1
    repeat' (first | apply v_nil | (apply v_pure; (case hop => first | (apply p_assign <;> rfl) | (apply p_pickF <;> rfl) | fail); (case hd => rfl)) | fail)
    refine v_ret [] (outsA1 rfl rfl) (by repeat (first | exact List.nil_sublist _ | fail)) ?_
    exact ⟨rfl, rfl, _, rfl, fun h => ⟨h1 rfl, h2 h⟩⟩
end Go.Proofs.YtgflmkhfachlcaaGreatDoor
/-
  The reference 25: states that may be; the same state.
-/
set_option linter.unusedSimpArgs false
set_option linter.unusedVariables false
namespace Go.Proofs.YtgflmkhfachlcaaGreatDoor
open Go.Vx Go.ChangeShapes Go.WideShapes Go.ChangeAt Go.RowKit
theorem refCheck_s {G : GH} {s : St} {v : Value} (hs : StV G s v) (hz : StZ s) : Con Tryz.prog 10 #[v] G [] (Just (.bool (decide (StP s))) G) := by
  obtain ⟨A, c, A', c', rfl, hp, hss⟩ := id hs
  obtain ⟨z1, z2, z3, z4⟩ := hz
  have hst := stP_iff (s := s)
  have q1 := fun h => refPCheck_s s.schema h hp z1
  have q2 := refSCheck_s hss z2
  obtain ⟨LA, lc, e, hlc, hcm, hsome, hcp⟩ := rowOpen hss
  cases e
  simp only [maxLen] at hcm
  apply Con.just
  generalize hd : decide (StP s) = dv
  have hyes : StP s → dv = true := fun h => by rw [← hd]; exact decide_eq_true h
  have hnot : ¬ StP s → dv = false := fun h => by rw [← hd]; exact decide_eq_false h
  rw [hst] at hyes hnot
  clear hd hst
  obtain ⟨schema, lp, ls⟩ := s
  simp only at *
  (refine v_enter Tryz.func10 rfl Tryz.ntmps10 rfl ?_; intro B _)
  by_cases hz2 : schema = 1 ∨ schema = 2
  · have q1 := q1 hz2
    by_cases h1 : PsOk schema lp
    · rw [decide_eq_true h1] at q1
      by_cases h2 : SesP ls
      · rw [decide_eq_true h2] at q2
        repeat' (first | (apply v_box (zs := [.int .i64 schema, .slice A lp.length c, .slice A' ls.length c']); (case hx => rfl); (case hz => rfl); (case hd => rfl); intro b) | apply v_seq | apply v_region | apply v_nil | apply v_skip | apply v_block | (apply v_take; (case hg => rfl)) | (apply v_pure; (case hop => first | (apply p_move <;> rfl) | (apply p_lt <;> rfl) | (apply p_gt <;> rfl) | (apply p_assign <;> rfl) | (apply p_pickF <;> rfl) | (apply p_not <;> rfl) | (apply p_fieldAddrB <;> rfl) | fail); (case hd => rfl)) | (apply v_condF; (case hc => rfl)) | (apply v_guardB; (case h1 => rfl); (case h2 => rfl); all_goals (intro h; (try simp only [reduceCtorEq, dec_true, dec_false, decide_eq_true_eq, decide_eq_false_iff_not, Bool.not_eq_true', Bool.not_eq_false', Option.isNone_iff_eq_none, beq_true, beq_false, beq_iff_eq, beq_eq_false_iff_ne, ne_eq, decide_eq_decide, Bool.not_eq_true, Bool.not_eq_false, Decidable.not_not] at h); first | (exfalso; omega) | skip)) | (apply v_callJ (hs := q1); (case ha => rfl); (case hd => rfl)) | (apply v_callJ (hs := q2); (case ha => rfl); (case hd => rfl)) | (apply v_read; (case hop => first | (apply r_load1; rfl; (apply Cell.own; (case h => (repeat (first | exact List.Mem.head _ | fail))); rfl)) | fail); (case hd => rfl)) | fail)
        refine v_loop [3, 1] (fun us G' μ' => G' = G ∧ μ' = [(b, .cells [.int .i64 schema, .slice A lp.length c, .slice A' ls.length c'].toArray 25 (0, 0))] ∧ ∃ k : Nat, k ≤ ls.length ∧ us = [Value.int .i64 (k : Nat), .pointer (some ⟨b, 0, none⟩)] ∧ ∀ i (h : i < ls.length), i < k → schema = 1 → revS ls[i] = false) (fun us => ls.length - (headI us).toNat) rfl ⟨rfl, rfl, 0, by omega, rfl, by omega⟩ ?_
        rintro us G' _ ⟨rfl, rfl, k, hk, rfl, hno⟩
        by_cases hlt : k < ls.length
        · have e1 : ((k : Nat) : Int).toNat = k := by omega
          have hA := hsome (by omega)
          have hlt' : k < ls.length := by omega
          have hc := (lastAt (hcp k hlt)).cell (j := 5) rfl
          have hin : schema = 1 → ls.any revS = false → (ls[k]).last.rev = 0 := fun h0 h => by
            have := List.any_eq_false.1 h _ (List.getElem_mem hlt')
            unfold revS at this
            simpa using this
          have hnx : (schema = 1 → (ls[k]).last.rev = 0) → ∀ i (h : i < ls.length), i < k + 1 → schema = 1 → revS ls[i] = false := fun a2 i hi hik hs1 => by
            by_cases e : i = k
            · subst e
              unfold revS
              simpa using a2 hs1
            · exact hno i hi (by omega) hs1
          generalize (ls[k]).last.rev = x at *
          repeat' (first | apply v_seq | apply v_region | apply v_nil | apply v_skip | apply v_block | apply v_blk | (apply v_take; (case hg => rfl)) | (apply v_pass; (case hg => rfl); (case hn => rfl); (case hd => rfl)) | (apply v_pure; (case hop => first | (apply p_move <;> rfl) | (apply p_eq <;> rfl) | (apply p_lt <;> rfl) | (apply p_ne <;> rfl) | (apply p_assign <;> rfl) | (apply p_pickT <;> rfl) | (apply p_pickF <;> rfl) | (apply p_lenSlice <;> rfl) | (apply p_fieldAddrB <;> rfl) | (apply p_fieldAddr <;> rfl) | (apply p_add; (case hx => rfl); (case hy => rfl); (case h => omega)) | (apply p_indexAddrS; (case hx => rfl); (case hi => rfl); (case h0 => omega); (case h => omega); (case hA => first | assumption | fail)) | fail); (case hd => rfl)) | (apply v_condF; (case hc => rfl)) | (apply v_cond; (case hc => rfl); all_goals (intro h; (try simp only [reduceCtorEq, dec_true, dec_false, decide_eq_true_eq, decide_eq_false_iff_not, Bool.not_eq_true', Bool.not_eq_false', Option.isNone_iff_eq_none, beq_true, beq_false, beq_iff_eq, beq_eq_false_iff_ne, ne_eq, decide_eq_decide, Bool.not_eq_true, Bool.not_eq_false, Decidable.not_not] at h); first | (exfalso; omega) | skip)) | (apply v_guardB; (case h1 => rfl); (case h2 => rfl); all_goals (intro h; (try simp only [reduceCtorEq, dec_true, dec_false, decide_eq_true_eq, decide_eq_false_iff_not, Bool.not_eq_true', Bool.not_eq_false', Option.isNone_iff_eq_none, beq_true, beq_false, beq_iff_eq, beq_eq_false_iff_ne, ne_eq, decide_eq_decide, Bool.not_eq_true, Bool.not_eq_false, Decidable.not_not] at h); first | skip)) | (apply v_read; (case hop => (apply r_load1; rfl; exact Cell.frozen hc)); (case hd => rfl)) | (apply v_read; (case hop => first | (apply r_load1; rfl; (apply Cell.own; (case h => (repeat (first | exact List.Mem.head _ | fail))); rfl)) | fail); (case hd => rfl)) | fail)
          all_goals first
            | (refine v_again rfl ⟨rfl, rfl, k + 1, by omega, rfl, hnx (fun h => by omega)⟩ (by simp [headI]; omega))
            | (refine v_ret [] (outsA1 rfl rfl) (by repeat (first | exact List.nil_sublist _ | fail)) ?_
               refine ⟨?_, rfl⟩
               rw [hnot]
               rintro ⟨-, -, -, a4⟩
               have := hin (by assumption) (a4 (by assumption))
               omega)
        · have hone : schema = 1 → ls.any revS = false := fun h => List.any_eq_false.2 fun x hx => by
            obtain ⟨i, hi, rfl⟩ := List.getElem_of_mem hx
            rw [hno i hi (by omega) h]; simp
          rw [hyes ⟨h2, hz2, h1, hone⟩]
          repeat' (first | apply v_seq | apply v_region | apply v_nil | (apply v_exit; (case hp => rfl)) | (apply v_pure; (case hop => first | (apply p_move <;> rfl) | (apply p_lt <;> rfl) | (apply p_assign <;> rfl) | (apply p_lenSlice <;> rfl) | (apply p_fieldAddrB <;> rfl) | fail); (case hd => rfl)) | (apply v_cond; (case hc => rfl); all_goals (intro h; (try simp only [reduceCtorEq, dec_true, dec_false, decide_eq_true_eq, decide_eq_false_iff_not, Bool.not_eq_true', Bool.not_eq_false', Option.isNone_iff_eq_none, beq_true, beq_false, beq_iff_eq, beq_eq_false_iff_ne, ne_eq, decide_eq_decide, Bool.not_eq_true, Bool.not_eq_false, Decidable.not_not] at h); first | (exfalso; omega) | skip)) | (apply v_read; (case hop => first | (apply r_load1; rfl; (apply Cell.own; (case h => (repeat (first | exact List.Mem.head _ | fail))); rfl)) | fail); (case hd => rfl)) | fail)
          refine v_ret [] (outsA1 rfl rfl) (by repeat (first | exact List.nil_sublist _ | fail)) ?_
          exact ⟨rfl, rfl⟩
      · rw [decide_eq_false h2] at q2
        rw [hnot (fun h => h2 h.1)]
        repeat' (first | (apply v_box (zs := [.int .i64 schema, .slice A lp.length c, .slice A' ls.length c']); (case hx => rfl); (case hz => rfl); (case hd => rfl); intro b) | apply v_seq | apply v_region | apply v_nil | (apply v_take; (case hg => rfl)) | (apply v_pure; (case hop => first | (apply p_move <;> rfl) | (apply p_lt <;> rfl) | (apply p_gt <;> rfl) | (apply p_assign <;> rfl) | (apply p_pickF <;> rfl) | (apply p_not <;> rfl) | (apply p_fieldAddrB <;> rfl) | fail); (case hd => rfl)) | (apply v_condT; (case hc => rfl)) | (apply v_guardB; (case h1 => rfl); (case h2 => rfl); all_goals (intro h; (try simp only [reduceCtorEq, dec_true, dec_false, decide_eq_true_eq, decide_eq_false_iff_not, Bool.not_eq_true', Bool.not_eq_false', Option.isNone_iff_eq_none, beq_true, beq_false, beq_iff_eq, beq_eq_false_iff_ne, ne_eq, decide_eq_decide, Bool.not_eq_true, Bool.not_eq_false, Decidable.not_not] at h); first | (exfalso; omega) | skip)) | (apply v_callJ (hs := q1); (case ha => rfl); (case hd => rfl)) | (apply v_callJ (hs := q2); (case ha => rfl); (case hd => rfl)) | (apply v_read; (case hop => first | (apply r_load1; rfl; (apply Cell.own; (case h => (repeat (first | exact List.Mem.head _ | fail))); rfl)) | fail); (case hd => rfl)) | fail)
        refine v_ret [] (outsA1 rfl rfl) (by repeat (first | exact List.nil_sublist _ | fail)) ?_
        exact ⟨rfl, rfl⟩
    · rw [decide_eq_false h1] at q1
      rw [hnot (fun h => h1 h.2.2.1)]
      repeat' (first | (apply v_box (zs := [.int .i64 schema, .slice A lp.length c, .slice A' ls.length c']); (case hx => rfl); (case hz => rfl); (case hd => rfl); intro b) | apply v_seq | apply v_region | apply v_nil | (apply v_take; (case hg => rfl)) | (apply v_pass; (case hg => rfl); (case hn => rfl); (case hd => rfl)) | (apply v_pure; (case hop => first | (apply p_move <;> rfl) | (apply p_lt <;> rfl) | (apply p_gt <;> rfl) | (apply p_assign <;> rfl) | (apply p_pickT <;> rfl) | (apply p_pickF <;> rfl) | (apply p_not <;> rfl) | (apply p_fieldAddrB <;> rfl) | fail); (case hd => rfl)) | (apply v_condT; (case hc => rfl)) | (apply v_guardB; (case h1 => rfl); (case h2 => rfl); all_goals (intro h; (try simp only [reduceCtorEq, dec_true, dec_false, decide_eq_true_eq, decide_eq_false_iff_not, Bool.not_eq_true', Bool.not_eq_false', Option.isNone_iff_eq_none, beq_true, beq_false, beq_iff_eq, beq_eq_false_iff_ne, ne_eq, decide_eq_decide, Bool.not_eq_true, Bool.not_eq_false, Decidable.not_not] at h); first | (exfalso; omega) | skip)) | (apply v_callJ (hs := q1); (case ha => rfl); (case hd => rfl)) | (apply v_read; (case hop => first | (apply r_load1; rfl; (apply Cell.own; (case h => (repeat (first | exact List.Mem.head _ | fail))); rfl)) | fail); (case hd => rfl)) | fail)
      refine v_ret [] (outsA1 rfl rfl) (by repeat (first | exact List.nil_sublist _ | fail)) ?_
      exact ⟨rfl, rfl⟩
  · rw [hnot (fun h => hz2 h.2.1)]
    repeat' (first | (apply v_box (zs := [.int .i64 schema, .slice A lp.length c, .slice A' ls.length c']); (case hx => rfl); (case hz => rfl); (case hd => rfl); intro b) | apply v_seq | apply v_region | apply v_nil | (apply v_take; (case hg => rfl)) | (apply v_pass; (case hg => rfl); (case hn => rfl); (case hd => rfl)) | (apply v_pure; (case hop => first | (apply p_move <;> rfl) | (apply p_lt <;> rfl) | (apply p_gt <;> rfl) | (apply p_assign <;> rfl) | (apply p_pickT <;> rfl) | (apply p_pickF <;> rfl) | (apply p_fieldAddrB <;> rfl) | fail); (case hd => rfl)) | (apply v_condT; (case hc => rfl)) | (apply v_guardB; (case h1 => rfl); (case h2 => rfl); all_goals (intro h; (try simp only [reduceCtorEq, dec_true, dec_false, decide_eq_true_eq, decide_eq_false_iff_not, Bool.not_eq_true', Bool.not_eq_false', Option.isNone_iff_eq_none, beq_true, beq_false, beq_iff_eq, beq_eq_false_iff_ne, ne_eq, decide_eq_decide, Bool.not_eq_true, Bool.not_eq_false, Decidable.not_not] at h); first | (exfalso; omega) | skip)) | (apply v_read; (case hop => first | (apply r_load1; rfl; (apply Cell.own; (case h => (repeat (first | exact List.Mem.head _ | fail))); rfl)) | fail); (case hd => rfl)) | fail)
    all_goals
      (refine v_ret [] (outsA1 rfl rfl) (by repeat (first | exact List.nil_sublist _ | fail)) ?_
       exact ⟨rfl, rfl⟩)
def Sm (p : Prop) (G : GH) : Value → GH → OH → Prop := fun r G' μ' => G' = G ∧ μ' = [] ∧ ∃ b, r = .bool b ∧ (p → b = true)
theorem pr_feq (x y : Pr) : ∃ q, FEq Tryz.prog 9999 x.cells y.cells [⟨"Key", 9, 0, false, "", "", 0⟩, ⟨"Val", 9, 1, false, "", "", 16⟩, ⟨"Rev", 3, 2, false, "", "", 32⟩] q ∧ (x = y → q = true) :=
  ⟨_, feq_str (bytes := 16) (zero := .string ByteArray.empty) (sz := 1) (a := x.key) (b := y.key) rfl rfl rfl (feq_str (bytes := 16) (zero := .string ByteArray.empty) (sz := 1) (a := x.val) (b := y.val) rfl rfl rfl (feq_int (k := .i64) (bytes := 8) (zero := .int .i64 0) (sz := 1) (a := x.rev) (b := y.rev) rfl rfl rfl feq_nil)), by rintro rfl; simp [dec_true]⟩
theorem an_feqD (d : Nat) (x y : An) : ∃ q, FEq Tryz.prog (d + 1) x.cells y.cells [⟨"Client", 3, 0, false, "", "", 0⟩, ⟨"Seq", 3, 1, false, "", "", 8⟩, ⟨"Err", 31, 2, false, "", "", 16⟩, ⟨"Found", 4, 3, false, "", "", 24⟩, ⟨"Val", 9, 4, false, "", "", 32⟩, ⟨"Rev", 3, 5, false, "", "", 48⟩] q ∧ (x = y → q = true) :=
  ⟨_, feq_int (k := .i64) (bytes := 8) (zero := .int .i64 0) (sz := 1) (a := x.client) (b := y.client) rfl rfl rfl (feq_int (k := .i64) (bytes := 8) (zero := .int .i64 0) (sz := 1) (a := x.seq) (b := y.seq) rfl rfl rfl (feq_int (k := .i64) (bytes := 8) (zero := .int .i64 0) (sz := 1) (a := x.err) (b := y.err) rfl rfl rfl (feq_one (bytes := 1) (zero := .bool false) (sz := 1) rfl (u := .bool x.found) (v := .bool y.found) rfl rfl (eqIs_bool d x.found y.found) (feq_str (bytes := 16) (zero := .string ByteArray.empty) (sz := 1) (a := x.val) (b := y.val) rfl rfl rfl (feq_int (k := .i64) (bytes := 8) (zero := .int .i64 0) (sz := 1) (a := x.rev) (b := y.rev) rfl rfl rfl feq_nil))))), by rintro rfl; simp [dec_true]⟩
theorem ss_feq (x y : Ss) : ∃ q, FEq Tryz.prog 9999 x.cells y.cells [⟨"Client", 3, 0, false, "", "", 0⟩, ⟨"Seq", 3, 1, false, "", "", 8⟩, ⟨"Last", 42, 2, false, "", "", 16⟩] q ∧ (x = y → q = true) := by
  obtain ⟨q, hq, hq1⟩ := an_feqD 9997 x.last y.last
  refine ⟨_, feq_int (k := .i64) (bytes := 8) (zero := .int .i64 0) (sz := 1) (a := x.client) (b := y.client) rfl rfl rfl (feq_int (k := .i64) (bytes := 8) (zero := .int .i64 0) (sz := 1) (a := x.seq) (b := y.seq) rfl rfl rfl (feq_agg (bytes := 56) (zero := zAn) (sz := 6) (us := x.last.cells) (vs := y.last.cells) rfl rfl rfl hq feq_nil)), ?_⟩
  rintro rfl
  rw [hq1 rfl]
  simp [dec_true]
theorem refPSame_s {G : GH} {l m : List Pr} {sv tv : Value} (hs : Prs G sv l) (ht : Prs G tv m) : Con Tryz.prog 26 #[sv, tv] G [] (Sm (l = m) G) := by
  obtain ⟨A, c, rfl, hlc, hcm, hsome, hcp⟩ := rowOpen hs
  obtain ⟨A', c', rfl, hlc', hcm', hsome', hcp'⟩ := rowOpen ht
  simp only [maxLen] at hcm hcm'
  (refine v_enter Tryz.func26 rfl Tryz.ntmps26 rfl ?_; intro B _)
  by_cases hlen : l.length = m.length
  · repeat' (first | apply v_seq | apply v_region | apply v_nil | apply v_skip | apply v_block | (apply v_pure; (case hop => first | (apply p_move <;> rfl) | (apply p_ne <;> rfl) | (apply p_assign <;> rfl) | (apply p_lenSlice <;> rfl) | fail); (case hd => rfl)) | (apply v_cond; (case hc => rfl); all_goals (intro h; (try simp only [reduceCtorEq, dec_true, dec_false, decide_eq_true_eq, decide_eq_false_iff_not, Bool.not_eq_true', Bool.not_eq_false', Option.isNone_iff_eq_none, beq_true, beq_false, beq_iff_eq, beq_eq_false_iff_ne, ne_eq, decide_eq_decide, Bool.not_eq_true, Bool.not_eq_false, Decidable.not_not] at h); first | (exfalso; omega) | skip)) | fail)
    refine v_loop [5, 0, 1] (fun us G' μ' => G' = G ∧ μ' = [] ∧ ∃ k : Nat, k ≤ l.length ∧ us = [Value.int .i64 (k : Nat), .slice A l.length c, .slice A' m.length c']) (fun us => l.length - (headI us).toNat) rfl ⟨rfl, rfl, 0, by omega, rfl⟩ ?_
    rintro us G' _ ⟨rfl, rfl, k, hk, rfl⟩
    by_cases hlt : k < l.length
    · have e1 : ((k : Nat) : Int).toNat = k := by omega
      have hA := hsome (by omega)
      have hA' := hsome' (by omega)
      have hck := hcp k hlt
      have hck' := hcp' k (by omega)
      have hin : l = m → l[k] = m[k]'(by omega) := fun h => by subst h; rfl
      generalize l[k] = x at *
      generalize m[k]'(by omega) = y at *
      obtain ⟨q, hq, hq1⟩ := pr_feq x y
      have hop := fun σ ty t' a b hx hy => p_neStruct (P := Tryz.prog) (σ := σ) (ty := ty) (t := 65) (t' := t') (x := a) (y := b) hx hy hq
      repeat' (first | apply v_seq | apply v_region | apply v_nil | apply v_skip | apply v_block | (apply v_pure; (case hop => first | (apply p_move <;> rfl) | (apply p_lt <;> rfl) | (apply p_lenSlice <;> rfl) | fail); (case hd => rfl)) | (apply v_cond; (case hc => rfl); all_goals (intro h; (try simp only [reduceCtorEq, dec_true, dec_false, decide_eq_true_eq, decide_eq_false_iff_not, Bool.not_eq_true', Bool.not_eq_false', Option.isNone_iff_eq_none, beq_true, beq_false, beq_iff_eq, beq_eq_false_iff_ne, ne_eq, decide_eq_decide, Bool.not_eq_true, Bool.not_eq_false, Decidable.not_not] at h); first | (exfalso; omega) | skip)) | fail)
      refine d_start [] (by kernel_rfl) (by kernel_rfl) (by kernel_rfl) (by intro e he; first | exact he | fail) ?_
      all_goals (first | (apply d_take 0; (case hi => rfl); (case hop => first | (apply PureOp.read; apply p_move <;> rfl)); (case hf => kernel_rfl); (case hr => kernel_rfl); (case hd => rfl)) | fail)
      all_goals (first | (apply d_take 1; (case hi => rfl); (case hop => first | (apply PureOp.read; apply p_move <;> rfl)); (case hf => kernel_rfl); (case hr => kernel_rfl); (case hd => rfl)) | fail)
      all_goals (first | (apply d_take 2; (case hi => rfl); (case hop => first | (apply PureOp.read; apply p_indexAddrS; (case hx => rfl); (case hi => rfl); (case h0 => omega); (case h => omega); (case hA => first | assumption | fail))); (case hf => kernel_rfl); (case hr => kernel_rfl); (case hd => rfl)) | fail)
      all_goals (first | (apply d_take 3; (case hi => rfl); (case hop => first | ((apply r_loadN; rfl; exact CellsAt.frozen hck; rfl)) | fail); (case hf => kernel_rfl); (case hr => kernel_rfl); (case hd => rfl)) | fail)
      all_goals (first | (apply d_take 4; (case hi => rfl); (case hop => first | (apply PureOp.read; apply p_move <;> rfl)); (case hf => kernel_rfl); (case hr => kernel_rfl); (case hd => rfl)) | fail)
      all_goals (first | (apply d_take 5; (case hi => rfl); (case hop => first | (apply PureOp.read; apply p_move <;> rfl)); (case hf => kernel_rfl); (case hr => kernel_rfl); (case hd => rfl)) | fail)
      all_goals (first | (apply d_take 6; (case hi => rfl); (case hop => first | (apply PureOp.read; apply p_indexAddrS; (case hx => rfl); (case hi => rfl); (case h0 => omega); (case h => omega); (case hA => first | assumption | fail))); (case hf => kernel_rfl); (case hr => kernel_rfl); (case hd => rfl)) | fail)
      all_goals (first | (apply d_take 7; (case hi => rfl); (case hop => first | ((apply r_loadN; rfl; exact CellsAt.frozen hck'; rfl)) | fail); (case hf => kernel_rfl); (case hr => kernel_rfl); (case hd => rfl)) | fail)
      all_goals (first | (apply d_take 8; (case hi => rfl); (case hop => first | ((apply PureOp.read; apply hop; (case hx => rfl); (case hy => rfl))) | fail); (case hf => kernel_rfl); (case hr => kernel_rfl); (case hd => rfl)) | fail)
      all_goals (apply d_done; (case hr => kernel_rfl))
      cases q with
      | true =>
        repeat' (first | apply v_region | apply v_nil | apply v_skip | apply v_blk | (apply v_pure; (case hop => first | (apply p_move <;> rfl) | (apply p_assign <;> rfl) | (apply p_add; (case hx => rfl); (case hy => rfl); (case h => omega)) | fail); (case hd => rfl)) | (apply v_condF; (case hc => rfl)) | fail)
        exact v_again rfl ⟨rfl, rfl, k + 1, by omega, rfl⟩ (by simp [headI]; omega)
      | false =>
        repeat' (first | apply v_seq | apply v_region | apply v_nil | (apply v_pure; (case hop => first | (apply p_assign <;> rfl) | fail); (case hd => rfl)) | (apply v_condT; (case hc => rfl)) | fail)
        refine v_ret [] (outsA1 rfl rfl) (by repeat (first | exact List.Sublist.refl _ | fail)) ?_
        exact ⟨rfl, rfl, _, rfl, fun h => absurd (hq1 (hin h)) (by simp)⟩
    · repeat' (first | apply v_seq | apply v_region | apply v_nil | (apply v_exit; (case hp => rfl)) | (apply v_pure; (case hop => first | (apply p_move <;> rfl) | (apply p_lt <;> rfl) | (apply p_assign <;> rfl) | (apply p_lenSlice <;> rfl) | fail); (case hd => rfl)) | (apply v_cond; (case hc => rfl); all_goals (intro h; (try simp only [reduceCtorEq, dec_true, dec_false, decide_eq_true_eq, decide_eq_false_iff_not, Bool.not_eq_true', Bool.not_eq_false', Option.isNone_iff_eq_none, beq_true, beq_false, beq_iff_eq, beq_eq_false_iff_ne, ne_eq, decide_eq_decide, Bool.not_eq_true, Bool.not_eq_false, Decidable.not_not] at h); first | (exfalso; omega) | skip)) | fail)
      refine v_ret [] (outsA1 rfl rfl) (by repeat (first | exact List.Sublist.refl _ | fail)) ?_
      exact ⟨rfl, rfl, _, rfl, fun _ => rfl⟩
  · repeat' (first | apply v_seq | apply v_region | apply v_nil | (apply v_pure; (case hop => first | (apply p_move <;> rfl) | (apply p_ne <;> rfl) | (apply p_assign <;> rfl) | (apply p_lenSlice <;> rfl) | fail); (case hd => rfl)) | (apply v_cond; (case hc => rfl); all_goals (intro h; (try simp only [reduceCtorEq, dec_true, dec_false, decide_eq_true_eq, decide_eq_false_iff_not, Bool.not_eq_true', Bool.not_eq_false', Option.isNone_iff_eq_none, beq_true, beq_false, beq_iff_eq, beq_eq_false_iff_ne, ne_eq, decide_eq_decide, Bool.not_eq_true, Bool.not_eq_false, Decidable.not_not] at h); first | (exfalso; omega) | skip)) | fail)
    all_goals
      (refine v_ret [] (outsA1 rfl rfl) (by repeat (first | exact List.Sublist.refl _ | fail)) ?_
       exact ⟨rfl, rfl, _, rfl, fun h => absurd (congrArg List.length h) hlen⟩)
theorem refSSame_s {G : GH} {l m : List Ss} {sv tv : Value} (hs : Sss G sv l) (ht : Sss G tv m) : Con Tryz.prog 27 #[sv, tv] G [] (Sm (l = m) G) := by
  obtain ⟨A, c, rfl, hlc, hcm, hsome, hcp⟩ := rowOpen hs
  obtain ⟨A', c', rfl, hlc', hcm', hsome', hcp'⟩ := rowOpen ht
  simp only [maxLen] at hcm hcm'
  (refine v_enter Tryz.func27 rfl Tryz.ntmps27 rfl ?_; intro B _)
  by_cases hlen : l.length = m.length
  · repeat' (first | apply v_seq | apply v_region | apply v_nil | apply v_skip | apply v_block | (apply v_pure; (case hop => first | (apply p_move <;> rfl) | (apply p_ne <;> rfl) | (apply p_assign <;> rfl) | (apply p_lenSlice <;> rfl) | fail); (case hd => rfl)) | (apply v_cond; (case hc => rfl); all_goals (intro h; (try simp only [reduceCtorEq, dec_true, dec_false, decide_eq_true_eq, decide_eq_false_iff_not, Bool.not_eq_true', Bool.not_eq_false', Option.isNone_iff_eq_none, beq_true, beq_false, beq_iff_eq, beq_eq_false_iff_ne, ne_eq, decide_eq_decide, Bool.not_eq_true, Bool.not_eq_false, Decidable.not_not] at h); first | (exfalso; omega) | skip)) | fail)
    refine v_loop [5, 0, 1] (fun us G' μ' => G' = G ∧ μ' = [] ∧ ∃ k : Nat, k ≤ l.length ∧ us = [Value.int .i64 (k : Nat), .slice A l.length c, .slice A' m.length c']) (fun us => l.length - (headI us).toNat) rfl ⟨rfl, rfl, 0, by omega, rfl⟩ ?_
    rintro us G' _ ⟨rfl, rfl, k, hk, rfl⟩
    by_cases hlt : k < l.length
    · have e1 : ((k : Nat) : Int).toNat = k := by omega
      have hA := hsome (by omega)
      have hA' := hsome' (by omega)
      have hck := hcp k hlt
      have hck' := hcp' k (by omega)
      have hin : l = m → l[k] = m[k]'(by omega) := fun h => by subst h; rfl
      generalize l[k] = x at *
      generalize m[k]'(by omega) = y at *
      obtain ⟨q, hq, hq1⟩ := ss_feq x y
      have hop := fun σ ty t' a b hx hy => p_neStruct (P := Tryz.prog) (σ := σ) (ty := ty) (t := 55) (t' := t') (x := a) (y := b) hx hy hq
      repeat' (first | apply v_seq | apply v_region | apply v_nil | apply v_skip | apply v_block | (apply v_pure; (case hop => first | (apply p_move <;> rfl) | (apply p_lt <;> rfl) | (apply p_lenSlice <;> rfl) | fail); (case hd => rfl)) | (apply v_cond; (case hc => rfl); all_goals (intro h; (try simp only [reduceCtorEq, dec_true, dec_false, decide_eq_true_eq, decide_eq_false_iff_not, Bool.not_eq_true', Bool.not_eq_false', Option.isNone_iff_eq_none, beq_true, beq_false, beq_iff_eq, beq_eq_false_iff_ne, ne_eq, decide_eq_decide, Bool.not_eq_true, Bool.not_eq_false, Decidable.not_not] at h); first | (exfalso; omega) | skip)) | fail)
      refine d_start [] (by kernel_rfl) (by kernel_rfl) (by kernel_rfl) (by intro e he; first | exact he | fail) ?_
      all_goals (first | (apply d_take 0; (case hi => rfl); (case hop => first | (apply PureOp.read; apply p_move <;> rfl)); (case hf => kernel_rfl); (case hr => kernel_rfl); (case hd => rfl)) | fail)
      all_goals (first | (apply d_take 1; (case hi => rfl); (case hop => first | (apply PureOp.read; apply p_move <;> rfl)); (case hf => kernel_rfl); (case hr => kernel_rfl); (case hd => rfl)) | fail)
      all_goals (first | (apply d_take 2; (case hi => rfl); (case hop => first | (apply PureOp.read; apply p_indexAddrS; (case hx => rfl); (case hi => rfl); (case h0 => omega); (case h => omega); (case hA => first | assumption | fail))); (case hf => kernel_rfl); (case hr => kernel_rfl); (case hd => rfl)) | fail)
      all_goals (first | (apply d_take 3; (case hi => rfl); (case hop => first | ((apply r_loadN; rfl; exact CellsAt.frozen hck; rfl)) | fail); (case hf => kernel_rfl); (case hr => kernel_rfl); (case hd => rfl)) | fail)
      all_goals (first | (apply d_take 4; (case hi => rfl); (case hop => first | (apply PureOp.read; apply p_move <;> rfl)); (case hf => kernel_rfl); (case hr => kernel_rfl); (case hd => rfl)) | fail)
      all_goals (first | (apply d_take 5; (case hi => rfl); (case hop => first | (apply PureOp.read; apply p_move <;> rfl)); (case hf => kernel_rfl); (case hr => kernel_rfl); (case hd => rfl)) | fail)
      all_goals (first | (apply d_take 6; (case hi => rfl); (case hop => first | (apply PureOp.read; apply p_indexAddrS; (case hx => rfl); (case hi => rfl); (case h0 => omega); (case h => omega); (case hA => first | assumption | fail))); (case hf => kernel_rfl); (case hr => kernel_rfl); (case hd => rfl)) | fail)
      all_goals (first | (apply d_take 7; (case hi => rfl); (case hop => first | ((apply r_loadN; rfl; exact CellsAt.frozen hck'; rfl)) | fail); (case hf => kernel_rfl); (case hr => kernel_rfl); (case hd => rfl)) | fail)
      all_goals (first | (apply d_take 8; (case hi => rfl); (case hop => first | ((apply PureOp.read; apply hop; (case hx => rfl); (case hy => rfl))) | fail); (case hf => kernel_rfl); (case hr => kernel_rfl); (case hd => rfl)) | fail)
      all_goals (apply d_done; (case hr => kernel_rfl))
      cases q with
      | true =>
        repeat' (first | apply v_region | apply v_nil | apply v_skip | apply v_blk | (apply v_pure; (case hop => first | (apply p_move <;> rfl) | (apply p_assign <;> rfl) | (apply p_add; (case hx => rfl); (case hy => rfl); (case h => omega)) | fail); (case hd => rfl)) | (apply v_condF; (case hc => rfl)) | fail)
        exact v_again rfl ⟨rfl, rfl, k + 1, by omega, rfl⟩ (by simp [headI]; omega)
      | false =>
        repeat' (first | apply v_seq | apply v_region | apply v_nil | (apply v_pure; (case hop => first | (apply p_assign <;> rfl) | fail); (case hd => rfl)) | (apply v_condT; (case hc => rfl)) | fail)
        refine v_ret [] (outsA1 rfl rfl) (by repeat (first | exact List.Sublist.refl _ | fail)) ?_
        exact ⟨rfl, rfl, _, rfl, fun h => absurd (hq1 (hin h)) (by simp)⟩
    · repeat' (first | apply v_seq | apply v_region | apply v_nil | (apply v_exit; (case hp => rfl)) | (apply v_pure; (case hop => first | (apply p_move <;> rfl) | (apply p_lt <;> rfl) | (apply p_assign <;> rfl) | (apply p_lenSlice <;> rfl) | fail); (case hd => rfl)) | (apply v_cond; (case hc => rfl); all_goals (intro h; (try simp only [reduceCtorEq, dec_true, dec_false, decide_eq_true_eq, decide_eq_false_iff_not, Bool.not_eq_true', Bool.not_eq_false', Option.isNone_iff_eq_none, beq_true, beq_false, beq_iff_eq, beq_eq_false_iff_ne, ne_eq, decide_eq_decide, Bool.not_eq_true, Bool.not_eq_false, Decidable.not_not] at h); first | (exfalso; omega) | skip)) | fail)
      refine v_ret [] (outsA1 rfl rfl) (by repeat (first | exact List.Sublist.refl _ | fail)) ?_
      exact ⟨rfl, rfl, _, rfl, fun _ => rfl⟩
  · repeat' (first | apply v_seq | apply v_region | apply v_nil | (apply v_pure; (case hop => first | (apply p_move <;> rfl) | (apply p_ne <;> rfl) | (apply p_assign <;> rfl) | (apply p_lenSlice <;> rfl) | fail); (case hd => rfl)) | (apply v_cond; (case hc => rfl); all_goals (intro h; (try simp only [reduceCtorEq, dec_true, dec_false, decide_eq_true_eq, decide_eq_false_iff_not, Bool.not_eq_true', Bool.not_eq_false', Option.isNone_iff_eq_none, beq_true, beq_false, beq_iff_eq, beq_eq_false_iff_ne, ne_eq, decide_eq_decide, Bool.not_eq_true, Bool.not_eq_false, Decidable.not_not] at h); first | (exfalso; omega) | skip)) | fail)
    all_goals
      (refine v_ret [] (outsA1 rfl rfl) (by repeat (first | exact List.Sublist.refl _ | fail)) ?_
       exact ⟨rfl, rfl, _, rfl, fun h => absurd (congrArg List.length h) hlen⟩)
end Go.Proofs.YtgflmkhfachlcaaGreatDoor
/-
  The references 22, 23, 25, 28: the same answers, the same state; lists built up. (Printed by genR.py.)
-/
set_option linter.unusedSimpArgs false
set_option linter.unusedVariables false
namespace Go.Proofs.YtgflmkhfachlcaaGreatDoor
open Go.Vx Go.ChangeShapes Go.WideShapes Go.ChangeAt Go.RowKit
theorem refSame_s {G : GH} {s t : St} {v u : Value} (hs : StV G s v) (ht : StV G t u) : Con Tryz.prog 11 #[v, u] G [] (Sm (s = t) G) := by
  obtain ⟨A, c, A', c', rfl, hp, hss⟩ := id hs
  obtain ⟨B0, e, B', e', rfl, hp', hss'⟩ := id ht
  have q1 := refPSame_s hp hp'
  have q2 := refSSame_s hss hss'
  obtain ⟨schema, lp, ls⟩ := s
  obtain ⟨schema', lp', ls'⟩ := t
  simp only at *
  (refine v_enter Tryz.func11 rfl Tryz.ntmps11 rfl ?_; intro B _)
  by_cases hz : schema = schema'
  · subst hz
    repeat' (first | (apply v_box (d := 2) (zs := [.int .i64 schema, .slice A lp.length c, .slice A' ls.length c']); (case hx => rfl); (case hz => rfl); (case hd => rfl); intro b2) | (apply v_box (d := 3) (zs := [.int .i64 schema, .slice B0 lp'.length e, .slice B' ls'.length e']); (case hx => rfl); (case hz => rfl); (case hd => rfl); intro b3) | apply v_seq | apply v_region | apply v_nil | (apply v_take; (case hg => rfl)) | (apply v_pure; (case hop => first | (apply p_move <;> rfl) | (apply p_eqs <;> rfl) | (apply p_assign <;> rfl) | (apply p_fieldAddrB <;> rfl) | fail); (case hd => rfl)) | (apply v_read; (case hop => first | (apply r_load1; rfl; (apply Cell.own; (case h => (repeat (first | exact List.Mem.head _ | apply List.Mem.tail | fail))); rfl)) | fail); (case hd => rfl)) | fail)
    refine v_call (μ1 := []) rfl q1 (List.Perm.refl _) rfl ?_
    rintro _ G1 _ - ⟨hG1, rfl, b1, rfl, h1⟩
    subst hG1
    cases b1 with
    | false =>
      repeat' (first | apply v_nil | (apply v_pass; (case hg => rfl); (case hn => rfl); (case hd => rfl)) | (apply v_pure; (case hop => first | (apply p_move <;> rfl) | (apply p_assign <;> rfl) | (apply p_pickT <;> rfl) | (apply p_pickF <;> rfl) | fail); (case hd => rfl)) | fail)
      refine v_ret [] (outsA1 rfl rfl) (by repeat (first | exact List.nil_sublist _ | fail)) ?_
      exact ⟨rfl, rfl, _, rfl, fun h => by cases h; exact h1 rfl⟩
    | true =>
      repeat' (first | (apply v_take; (case hg => rfl)) | (apply v_pure; (case hop => first | (apply p_move <;> rfl) | (apply p_pickT <;> rfl) | (apply p_fieldAddrB <;> rfl) | fail); (case hd => rfl)) | (apply v_read; (case hop => first | (apply r_load1; rfl; (apply Cell.own; (case h => (repeat (first | exact List.Mem.head _ | apply List.Mem.tail | fail))); rfl)) | fail); (case hd => rfl)) | fail)
      refine v_call (μ1 := []) rfl q2 (List.Perm.refl _) rfl ?_
      rintro _ G1 _ - ⟨hG1, rfl, b4, rfl, h2⟩
      subst hG1
      repeat' (first | apply v_nil | (apply v_pure; (case hop => first | (apply p_assign <;> rfl) | (apply p_pickT <;> rfl) | fail); (case hd => rfl)) | fail)
      refine v_ret [] (outsA1 rfl rfl) (by repeat (first | exact List.nil_sublist _ | fail)) ?_
      exact ⟨rfl, rfl, _, rfl, fun h => by cases h; exact h2 rfl⟩
  · repeat' (first | (apply v_box (d := 2) (zs := [.int .i64 schema, .slice A lp.length c, .slice A' ls.length c']); (case hx => rfl); (case hz => rfl); (case hd => rfl); intro b2) | (apply v_box (d := 3) (zs := [.int .i64 schema', .slice B0 lp'.length e, .slice B' ls'.length e']); (case hx => rfl); (case hz => rfl); (case hd => rfl); intro b3) | apply v_seq | apply v_region | apply v_nil | (apply v_pass; (case hg => rfl); (case hn => rfl); (case hd => rfl)) | (apply v_pure; (case hop => first | (apply p_move <;> rfl) | (apply p_eq <;> rfl) | (apply p_assign <;> rfl) | (apply p_pickF <;> rfl) | (apply p_fieldAddrB <;> rfl) | fail); (case hd => rfl)) | (apply v_guardB; (case h1 => rfl); (case h2 => rfl); all_goals (intro h; (try simp only [reduceCtorEq, dec_true, dec_false, decide_eq_true_eq, decide_eq_false_iff_not, Bool.not_eq_true', Bool.not_eq_false', Option.isNone_iff_eq_none, beq_true, beq_false, beq_iff_eq, beq_eq_false_iff_ne, ne_eq, decide_eq_decide, Bool.not_eq_true, Bool.not_eq_false, Decidable.not_not] at h); first | (exfalso; omega) | skip)) | (apply v_read; (case hop => first | (apply r_load1; rfl; (apply Cell.own; (case h => (repeat (first | exact List.Mem.head _ | apply List.Mem.tail | fail))); rfl)) | fail); (case hd => rfl)) | fail)
    all_goals
      (refine v_ret [] (outsA1 rfl rfl) (by repeat (first | exact List.nil_sublist _ | fail)) ?_
       exact ⟨rfl, rfl, _, rfl, fun h => absurd (congrArg St.schema h) hz⟩)
end Go.Proofs.YtgflmkhfachlcaaGreatDoor
/-
  The references 22, 23, 25: lists built up; the last answer. (Printed by genW.py.)
-/
set_option linter.unusedSimpArgs false
set_option linter.unusedVariables false
namespace Go.Proofs.YtgflmkhfachlcaaGreatDoor
open Go.Vx Go.ChangeShapes Go.WideShapes Go.ChangeAt Go.RowKit
section
variable {α : Type} {key : α → Int}
end
theorem GrP.snoc {v : Value} {l : List Pr} {a : Pr} {ν : OH} (h : Grow 65 3 v (l.length + 1) (rowC Pr.cells l ++ a.cells) ν) : GrP v (l ++ [a]) ν := by
  unfold GrP
  rw [List.length_append, List.length_singleton, rowC_append, rowC_cons, rowC_nil, List.append_nil]
  exact h
theorem GrS.snoc {v : Value} {l : List Ss} {a : Ss} {ν : OH} (h : Grow 55 8 v (l.length + 1) (rowC Ss.cells l ++ a.cells) ν) : GrS v (l ++ [a]) ν := by
  unfold GrS
  rw [List.length_append, List.length_singleton, rowC_append, rowC_cons, rowC_nil, List.append_nil]
  exact h
end Go.Proofs.YtgflmkhfachlcaaGreatDoor
/-
  The references 22, 23, 25: Without, Last, Revs.
-/
set_option linter.unusedSimpArgs false
set_option linter.unusedVariables false
namespace Go.Proofs.YtgflmkhfachlcaaGreatDoor
open Go.Vx Go.ChangeShapes Go.WideShapes Go.ChangeAt Go.RowKit
end Go.Proofs.YtgflmkhfachlcaaGreatDoor
/-
  The reference 25: Revs.
-/
set_option linter.unusedSimpArgs false
set_option linter.unusedVariables false
namespace Go.Proofs.YtgflmkhfachlcaaGreatDoor
open Go.Vx Go.ChangeShapes Go.WideShapes Go.ChangeAt Go.RowKit
end Go.Proofs.YtgflmkhfachlcaaGreatDoor
/-
  The reference 23: what Do does, in plain Lean.
-/
set_option linter.unusedSimpArgs false
set_option linter.unusedVariables false
namespace Go.Proofs.YtgflmkhfachlcaaGreatDoor
open Go.Vx Go.ChangeShapes Go.WideShapes Go.ChangeAt Go.RowKit
end Go.Proofs.YtgflmkhfachlcaaGreatDoor
/-
  The reference 23: the walk of Do. (Printed by genD.py.)
-/
set_option linter.unusedSimpArgs false
set_option linter.unusedVariables false
namespace Go.Proofs.YtgflmkhfachlcaaGreatDoor
open Go.Vx Go.ChangeShapes Go.WideShapes Go.ChangeAt Go.RowKit
end Go.Proofs.YtgflmkhfachlcaaGreatDoor
/-
  The references 23, 28: Do, Apply.
-/
set_option linter.unusedSimpArgs false
set_option linter.unusedVariables false
namespace Go.Proofs.YtgflmkhfachlcaaGreatDoor
open Go.Vx Go.ChangeShapes Go.WideShapes Go.ChangeAt Go.RowKit
end Go.Proofs.YtgflmkhfachlcaaGreatDoor
/-
  The reference 28: Apply.
-/
set_option linter.unusedSimpArgs false
set_option linter.unusedVariables false
namespace Go.Proofs.YtgflmkhfachlcaaGreatDoor
open Go.Vx Go.ChangeShapes Go.WideShapes Go.ChangeAt Go.RowKit
end Go.Proofs.YtgflmkhfachlcaaGreatDoor
/-
  The reference 28: Run.
-/
set_option linter.unusedSimpArgs false
set_option linter.unusedVariables false
namespace Go.Proofs.YtgflmkhfachlcaaGreatDoor
open Go.Vx Go.ChangeShapes Go.WideShapes Go.ChangeAt Go.RowKit
section
attribute [local semireducible] Vc DVc Con PureOp ReadOp MoveOp
theorem d_fork3 {P : Program} {fn : Func} {n : Nat} {B : Base} {Φ : Value → GH → OH → Prop} {k : List It} {σ : Env} {G G0 : GH} {μ : OH} {all : Array Oper} {m : Nat} {listed : Array Bool} {ν : OH} (i j l : Nat) (hr : Region.ready .any all listed = [i, j, l]) (h1 : DX P fn n B Φ all G0 ν m listed k σ G μ i) (h2 : DX P fn n B Φ all G0 ν m listed k σ G μ j) (h3 : DX P fn n B Φ all G0 ν m listed k σ G μ l) : DVc P fn n B Φ all G0 ν (m + 1) listed k σ G μ := by
  intro hsel hle hν w hw a ha
  refine wpAnyH_all hr (by simp) fun x hx => ?_
  simp only [List.mem_cons, List.mem_singleton, List.not_mem_nil, or_false] at hx
  obtain rfl | rfl | rfl := hx
  · exact h1 hsel hle hν w hw a ha
  · exact h2 hsel hle hν w hw a ha
  · exact h3 hsel hle hν w hw a ha
end
theorem applyS_err (s : St) (c : Cm) : (applyS s c).2.2 = cmdI c := by
  unfold applyS
  by_cases h : cmdI c = 0
  · rw [if_neg (by simp [h]), h]
    (repeat' split) <;> rfl
  · rw [if_pos h]
end Go.Proofs.YtgflmkhfachlcaaGreatDoor
/-
  app's law (layer 28): awake, in plain Lean.
-/
set_option linter.unusedSimpArgs false
set_option linter.unusedVariables false
namespace Go.Proofs.YtgflmkhfachlcaaGreatDoor
open Go.Vx Go.ChangeShapes Go.WideShapes Go.ChangeAt Go.RowKit
abbrev kA : ByteArray := ⟨#[97]⟩
abbrev emp : St := ⟨1, [], []⟩
abbrev cA : Cm := ⟨5, 1, 1, kA, ByteArray.empty, ByteArray.empty, 0⟩
abbrev mA : Cm := ⟨6, 0, 0, ByteArray.empty, ByteArray.empty, ByteArray.empty, 0⟩
theorem keyA : keyB kA = true := by decide +kernel
theorem cA_ok : cmdI cA = 0 := by
  rw [cmdI_eq]
  unfold cmdE
  simp [keyA, valB_empty]
theorem mA_ok : cmdI mA = 0 := by
  rw [cmdI_eq]
  unfold cmdE
  simp
theorem sesP_nil : SesP [] := ⟨fun i hi => by simp at hi, fun x hx => by simp at hx⟩
theorem emp_ok : StP emp := stP_iff.2 ⟨sesP_nil, .inl rfl, ⟨by simp, List.Pairwise.nil, fun x hx => by simp at hx⟩, fun _ => rfl⟩
theorem which_nil (n q : Int) : whichS [] n q = (0, zA) := by unfold whichS; rw [if_pos (show hitG ksS ([] : List Ss) n = false from rfl)]
theorem has15 : ¬ HasP 1 5 := fun h => absurd (h.2.2.2 rfl) (by decide)
theorem has25 : HasP 2 5 := ⟨.inr rfl, by decide, by decide, fun _ => rfl⟩
theorem run_awake : runS emp [cA, mA, cA] = (⟨2, [], [⟨1, 1, ⟨1, 1, 10, false, ByteArray.empty, 0⟩⟩]⟩, [⟨1, 1, 14, false, ByteArray.empty, 0⟩, zA, ⟨1, 1, 10, false, ByteArray.empty, 0⟩], 0) := by
  have a1 : applyS emp cA = (emp, ⟨1, 1, 14, false, ByteArray.empty, 0⟩, 0) := by
    unfold applyS clientS
    rw [cA_ok, which_nil]
    simp [ans0, verS, has15]
  have a2 : applyS emp mA = (upS emp, zA, 0) := by
    unfold applyS
    rw [mA_ok]
    simp
  have a3 : applyS (upS emp) cA = (⟨2, [], [⟨1, 1, ⟨1, 1, 10, false, ByteArray.empty, 0⟩⟩]⟩, ⟨1, 1, 10, false, ByteArray.empty, 0⟩, 0) := by
    unfold applyS clientS upS
    rw [cA_ok]
    simp only [which_nil]
    simp [ans0, verS, doS, doTwo, casP, hitG, placeG, withG, sesOf]
    rw [if_pos has25]
    exact ⟨rfl, rfl⟩
  unfold runS
  rw [if_pos emp_ok]
  simp only [runA, a1, a2, a3]
  simp
end Go.Proofs.YtgflmkhfachlcaaGreatDoor
/-
  app's law (layer 28): awake.
-/
set_option linter.unusedSimpArgs false
set_option linter.unusedVariables false
namespace Go.Proofs.YtgflmkhfachlcaaGreatDoor
open Go.Vx Go.ChangeShapes Go.WideShapes Go.ChangeAt Go.RowKit
theorem empty_s (G : GH) : Con Tryz.prog 21 #[] G [] (Just (.agg [.int .i64 1, .slice none 0 0, .slice none 0 0].toArray) G) := by
  apply Con.just
  (refine v_enter Tryz.func21 rfl Tryz.ntmps21 rfl ?_; intro B _)
  repeat' (first | (apply v_alloc (d := 0); (case hz => rfl); (case hd => rfl); intro b0) | apply v_seq | apply v_region | apply v_nil | (apply v_pure; (case hop => first | (apply p_build; (case hz => rfl); (case hv => (simp only [List.map_cons, List.map_nil]; repeat (first | with_reducible exact evs_nil | (apply evs_cons; (case h1 => rfl))))); (case hb => (apply bldL; repeat (first | exact bld_nil | (apply bld_cons; (case hpf => rfl); (case hc => rfl); (case hs => rfl); (case hl => rfl); (case ho => (first | ((repeat (first | with_reducible exact ov_nil | apply ov_cons | fail)); done) | fail)))))))); (case hd => rfl)) | (apply v_store; (case hp => rfl); (case hx => rfl); (case hc => rfl); (case hsz => rfl); (case h1 => rfl); (case hb => (repeat (first | exact List.Mem.head _ | fail))); (case hfit => first | exact Nat.le_of_ble_eq_true rfl | fail); (case hov => (first | ((repeat (first | with_reducible exact ov_nil | apply ov_cons | fail)); done) | fail)); (case hu => repeat (first | exact Upd.here _ _ | fail))) | fail)
  refine v_retM [] (outsM_cell (sz := 3) (vs := [.int .i64 1, .slice none 0 0, .slice none 0 0]) (e := 25) rfl rfl (by (repeat (first | exact List.Mem.head _ | fail))) rfl) (List.nil_sublist _) ⟨rfl, rfl⟩
theorem emp_v (G : GH) : StV G emp (.agg [.int .i64 1, .slice none 0 0, .slice none 0 0].toArray) := by
  refine ⟨none, 0, none, 0, rfl, ?_, ?_⟩
  · exact row_of_grow Pr.len (Grow.nil 65 3) (fun b o h => by cases h)
  · exact row_of_grow Ss.len (Grow.nil 55 8) (fun b o h => by cases h)
section
attribute [local semireducible] Vc DVc Con PureOp ReadOp MoveOp
theorem Con.give {P : Program} {f : FuncId} {args : Array Value} {G : GH} {ν : OH} {Ψ : Value → GH → OH → Prop} (h : ∀ G', GH.le G G' → (∀ b o, (b, o) ∈ ν → G' b = some o) → Con P f args G' [] Ψ) : Con P f args G ν Ψ := by
  intro w hw
  have s1 : Step G ν w G (ν ++ []) w := by rw [List.append_nil]; exact Step.refl hw
  have s2 := s1.freeze
  have hn := s1.mem.nodup
  rw [List.append_nil] at hn
  refine (h _ (GH.le_put _ _) (fun b o hb => GH.put_mem hn (hw.apart b o hb) hb) w s2.mem).mono fun v w' ⟨G', μ', hs, hΦ⟩ => ⟨G', μ', s2.trans hs, hΦ⟩
end
theorem madeC {G : GH} {l : List Cm} {b : Nat} (h : l.length ≤ 200) (hb : G b = some (.cells (rowC Cm.cells l).toArray 38 (0, 0))) : Cms G (.slice (some ⟨b, 0, none⟩) l.length l.length) l := by
  have hg : Grow 38 7 (.slice (some ⟨b, 0, none⟩) l.length l.length) l.length (rowC Cm.cells l) [(b, .cells (rowC Cm.cells l).toArray 38 (0, 0))] :=
    ⟨rowC_length Cm.len l, .inr ⟨b, l.length, [], rfl, by rw [List.append_nil], Nat.le_refl _, by simp only [maxLen]; omega, by rw [List.append_nil]; exact rowC_length Cm.len l⟩⟩
  exact row_of_grow Cm.len hg (fun b' o h => by simp only [List.mem_singleton] at h; cases h; exact hb)
theorem awake28_s {G : GH} (hT : TabsG G) : Con Tryz.prog 8 #[] G [] (fun r G' μ' => r = .bool true ∧ μ' = []) := by
  have q0 := fun G' => empty_s G'
  have hlw : CmsW [cA, mA, cA] := ⟨by decide, fun c hc => by
    have h1 : cA.ok ∧ CmW cA := ⟨⟨by decide, by decide, by decide, by decide, by decide, by decide, by decide⟩, by decide, by decide⟩
    have h2 : mA.ok ∧ CmW mA := ⟨⟨by decide, by decide, by decide, by decide, by decide, by decide, by decide⟩, by decide, by decide⟩
    simp only [List.mem_cons, List.not_mem_nil, or_false] at hc
    rcases hc with rfl | rfl | rfl
    · exact h1
    · exact h2
    · exact h1⟩
  have hz : StZ emp := emp_ok.small
  have qr := fun G' (h : TabsG G') b (hb : G' b = some (.cells (rowC Cm.cells [cA, mA, cA]).toArray 38 (0, 0))) => run_s (lv := .slice (some ⟨b, 0, none⟩) 3 3) (l := [cA, mA, cA]) h (emp_v G') hz (madeC (l := [cA, mA, cA]) (by decide) hb) hlw
  rw [run_awake] at qr
  simp only at qr
  (refine v_enter Tryz.func8 rfl Tryz.ntmps8 rfl ?_; intro B _)
  repeat' (first | (apply v_alloc (d := 1); (case hz => rfl); (case hd => rfl); intro b1) | apply v_seq | apply v_region | apply v_nil | (apply v_pure; (case hop => first | (apply p_assign <;> rfl) | (apply p_build; (case hz => rfl); (case hv => (simp only [List.map_cons, List.map_nil]; repeat (first | with_reducible exact evs_nil | (apply evs_cons; (case h1 => rfl))))); (case hb => (apply bldL; repeat (first | exact bld_nil | (apply bld_cons; (case hpf => rfl); (case hc => rfl); (case hs => rfl); (case hl => rfl); (case ho => (first | ((repeat (first | with_reducible exact ov_nil | apply ov_cons | fail)); done) | fail))))))) | fail); (case hd => rfl)) | (apply v_store; (case hp => rfl); (case hx => rfl); (case hc => rfl); (case hsz => rfl); (case h1 => rfl); (case hb => (repeat (first | exact List.Mem.head _ | fail))); (case hfit => first | exact Nat.le_of_ble_eq_true rfl | fail); (case hov => (first | ((repeat (first | with_reducible exact ov_nil | apply ov_cons | fail)); done) | fail)); (case hu => repeat (first | exact Upd.here _ _ | fail))) | fail)
  have qg := fun b => Con.give (fun G' hle hG => qr G' (hT.up hle) b (hG _ _ (List.Mem.head _))) (G := G) (ν := [(b, .cells (rowC Cm.cells [cA, mA, cA]).toArray 38 (0, 0))])
  refine d_start [(b1, .cells [.int .i64 5, .int .i64 1, .int .i64 1, .string kA, .string ByteArray.empty, .string ByteArray.empty, .int .i64 0].toArray 38 (0, 0))] (by kernel_rfl) (by kernel_rfl) (by kernel_rfl) (by intro e he; first | exact he | fail) ?_
  all_goals (first | (apply d_take 1; (case hi => rfl); (case hop => first   | (apply r_loadNo; (case hx => rfl); (case h => (repeat (first | exact List.Mem.head _ | fail))); (case hd => (repeat (first | with_reducible exact dt_nil | apply dt_here | fail))); (case hn => rfl)) | (apply r_load1; rfl; (apply Cell.own; (case h => (repeat (fail))); rfl)) | (apply r_loadN; rfl; (apply CellsAt.own; (case h => (repeat (fail)))); rfl)); (case hf => kernel_rfl); (case hr => kernel_rfl); (case hd => rfl)) | fail)
  all_goals (first | (apply d_take 2; (case hi => rfl); (case hop => first | (apply PureOp.read; apply p_build; (case hz => rfl); (case hv => (simp only [List.map_cons, List.map_nil]; repeat (first | with_reducible exact evs_nil | (apply evs_cons; (case h1 => rfl))))); (case hb => (apply bldL; repeat (first | exact bld_nil | (apply bld_cons; (case hpf => rfl); (case hc => rfl); (case hs => rfl); (case hl => rfl); (case ho => (first | ((repeat (first | with_reducible exact ov_nil | apply ov_cons | fail)); done) | fail)))))))); (case hf => kernel_rfl); (case hr => kernel_rfl); (case hd => rfl)) | fail)
  all_goals (first | (apply d_take 3; (case hi => rfl); (case hop => first   | (apply r_loadNo; (case hx => rfl); (case h => (repeat (first | exact List.Mem.head _ | fail))); (case hd => (repeat (first | with_reducible exact dt_nil | apply dt_here | fail))); (case hn => rfl)) | (apply r_load1; rfl; (apply Cell.own; (case h => (repeat (fail))); rfl)) | (apply r_loadN; rfl; (apply CellsAt.own; (case h => (repeat (fail)))); rfl)); (case hf => kernel_rfl); (case hr => kernel_rfl); (case hd => rfl)) | fail)
  refine d_fork3 0 4 10 (by kernel_rfl) ?fk1a ?fk1b ?fk1c
  case' fk1a =>
    first | (apply x_exec 0; (case hi => rfl); (case hop => apply m_callFJ (hs := (q0 _)) <;> rfl); (case hd => rfl); rintro _ _ _ ⟨rfl, rfl, rfl⟩; refine ⟨(by intro e he; first | exact he | fail), ?_⟩) | fail
    refine d_fork 4 10 (by kernel_rfl) ?fk2a ?fk2b
    case' fk2a =>
      first | (apply x_buildSlice 4; (case hi => rfl); (case hT => infer_instance); (case hL => infer_instance); (case hz => rfl); (case hl => rfl); (case hv => (simp only [List.map_cons, List.map_nil]; repeat (first | with_reducible exact evs_nil | (apply evs_cons; (case h1 => rfl))))); (case hp => (first | (apply pk_cons; (case hc => rfl); (case hs => rfl); (case h => (first | (apply pk_cons; (case hc => rfl); (case hs => rfl); (case h => (first | (apply pk_cons; (case hc => rfl); (case hs => rfl); (case h => (first | with_reducible exact pk_nil | fail)); (case he => (first | ((repeat (first | with_reducible exact ap_nil | apply ap_cons)); done) | fail))) | fail)); (case he => (first | ((repeat (first | with_reducible exact ap_nil | apply ap_cons)); done) | fail))) | fail)); (case he => (first | ((repeat (first | with_reducible exact ap_nil | apply ap_cons)); done) | fail))) | fail)); (case hb => rfl); (case hd => rfl); (case hν => intro e he; first | exact he | fail); intro bs) | fail
      refine d_fork 5 10 (by kernel_rfl) ?fk3a ?fk3b
      case' fk3a =>
        first | (apply x_call 5 (hs := qg bs) (μ1 := [(bs, .cells (rowC Cm.cells [cA, mA, cA]).toArray 38 (0, 0))]); (case hi => rfl);  (case ha => rfl); (case hp => exact PickA.perm (by repeat (first | exact PickA.here _ | fail))); (case hd => rfl); (case hν' => intro e he; simp only [List.mem_cons, List.not_mem_nil, or_false] at he; rcases he with rfl; simp); rintro _ G6 ν6 hle6 ⟨v6, av6, rfl, hs6, hg6⟩; obtain ⟨A6, c6, A6', c6', rfl, -, -⟩ := id hs6) | fail
        all_goals (first | (apply d_take 6; (case hi => rfl); (case hop => first | (apply PureOp.read; apply p_move <;> rfl)); (case hf => kernel_rfl); (case hr => kernel_rfl); (case hd => rfl)) | fail)
        all_goals (first | (apply d_take 7; (case hi => rfl); (case hop => first | (apply PureOp.read; apply p_extract0 <;> rfl) | fail); (case hf => kernel_rfl); (case hr => kernel_rfl); (case hd => rfl)) | fail)
        all_goals (first | (apply d_take 8; (case hi => rfl); (case hop => first | (apply PureOp.read; apply p_extract1 <;> rfl) | fail); (case hf => kernel_rfl); (case hr => kernel_rfl); (case hd => rfl)) | fail)
        all_goals (first | (apply d_take 9; (case hi => rfl); (case hop => first | (apply PureOp.read; apply p_extract2 <;> rfl) | fail); (case hf => kernel_rfl); (case hr => kernel_rfl); (case hd => rfl)) | fail)
        all_goals (first | ((apply d_exec (d := 2) 10; (case hi => rfl); (case hr => kernel_rfl);  (case hop => exact m_alloc rfl); (case hd => rfl); rintro _ G0 _ ⟨b2, rfl, hG0, rfl⟩; subst G0; refine ⟨(by intro e he; simp only [List.mem_cons, List.not_mem_nil, or_false] at he; rcases he with rfl; simp), ?_⟩)) | fail)
        all_goals (first | (apply d_store 11; (case hi => rfl); (case hr => kernel_rfl); (case hL => infer_instance); (case hp => rfl); (case hx => rfl); (case hc => rfl); (case hsz => rfl); (case h1 => rfl); (case hb => (repeat (first | exact List.Mem.head _ | fail))); (case hfit => first | exact Nat.le_of_ble_eq_true rfl | fail); (case hov => (first | ((repeat (first | with_reducible exact ov_nil | apply ov_cons | fail)); done) | fail)); (case hu => repeat (first | exact Upd.here _ _ | fail)); (case hν' => intro e he; first | (simp at he; simp [he]; done) | fail)) | fail)
        all_goals (first | (apply d_take 12; (case hi => rfl); (case hop => first | (apply PureOp.read; apply p_assign <;> rfl)); (case hf => kernel_rfl); (case hr => kernel_rfl); (case hd => rfl)) | fail)
        all_goals (first | (apply d_take 13; (case hi => rfl); (case hop => first | (apply PureOp.read; apply p_assign <;> rfl)); (case hf => kernel_rfl); (case hr => kernel_rfl); (case hd => rfl)) | fail)
        all_goals (apply d_done; (case hr => kernel_rfl))
      case' fk3b =>
        first | (apply x_exec (d := 2) 10; (case hi => rfl);  (case hop => exact m_alloc rfl); (case hd => rfl); rintro _ G0 _ ⟨b2, rfl, hG0, rfl⟩; subst G0; refine ⟨(by intro e he; simp only [List.mem_cons, List.not_mem_nil, or_false] at he; rcases he with rfl; simp), ?_⟩) | fail
        all_goals (first | ((apply d_call 5 (hs := qg bs) (μ1 := [(bs, .cells (rowC Cm.cells [cA, mA, cA]).toArray 38 (0, 0))]); (case hi => rfl); (case hr => kernel_rfl);  (case ha => rfl); (case hp => exact PickA.perm (by repeat (first | exact PickA.here _ | apply PickA.cons | fail))); (case hd => rfl); (case hν' => intro e he; simp only [List.mem_cons, List.not_mem_nil, or_false] at he; rcases he with rfl; simp); rintro _ G6 ν6 hle6 ⟨v6, av6, rfl, hs6, hg6⟩; obtain ⟨A6, c6, A6', c6', rfl, -, -⟩ := id hs6)) | fail)
        all_goals (first | (apply d_take 6; (case hi => rfl); (case hop => first | (apply PureOp.read; apply p_move <;> rfl)); (case hf => kernel_rfl); (case hr => kernel_rfl); (case hd => rfl)) | fail)
        all_goals (first | (apply d_take 7; (case hi => rfl); (case hop => first | (apply PureOp.read; apply p_extract0 <;> rfl) | fail); (case hf => kernel_rfl); (case hr => kernel_rfl); (case hd => rfl)) | fail)
        all_goals (first | (apply d_take 8; (case hi => rfl); (case hop => first | (apply PureOp.read; apply p_extract1 <;> rfl) | fail); (case hf => kernel_rfl); (case hr => kernel_rfl); (case hd => rfl)) | fail)
        all_goals (first | (apply d_take 9; (case hi => rfl); (case hop => first | (apply PureOp.read; apply p_extract2 <;> rfl) | fail); (case hf => kernel_rfl); (case hr => kernel_rfl); (case hd => rfl)) | fail)
        all_goals (first | (apply d_store 11; (case hi => rfl); (case hr => kernel_rfl); (case hL => infer_instance); (case hp => rfl); (case hx => rfl); (case hc => rfl); (case hsz => rfl); (case h1 => rfl); (case hb => (repeat (first | exact List.Mem.head _ | apply List.mem_append_right))); (case hfit => first | exact Nat.le_of_ble_eq_true rfl | fail); (case hov => (first | ((repeat (first | with_reducible exact ov_nil | apply ov_cons | fail)); done) | fail)); (case hu => repeat (first | exact Upd.here _ _ | apply Upd.app)); (case hν' => intro e he; first | (simp at he; simp [he]; done) | fail)) | fail)
        all_goals (first | (apply d_take 12; (case hi => rfl); (case hop => first | (apply PureOp.read; apply p_assign <;> rfl)); (case hf => kernel_rfl); (case hr => kernel_rfl); (case hd => rfl)) | fail)
        all_goals (first | (apply d_take 13; (case hi => rfl); (case hop => first | (apply PureOp.read; apply p_assign <;> rfl)); (case hf => kernel_rfl); (case hr => kernel_rfl); (case hd => rfl)) | fail)
        all_goals (apply d_done; (case hr => kernel_rfl))
    case' fk2b =>
      first | (apply x_exec (d := 2) 10; (case hi => rfl);  (case hop => exact m_alloc rfl); (case hd => rfl); rintro _ G0 _ ⟨b2, rfl, hG0, rfl⟩; subst G0; refine ⟨(by intro e he; simp only [List.mem_cons, List.not_mem_nil, or_false] at he; rcases he with rfl; simp), ?_⟩) | fail
      all_goals (first | (apply d_buildSlice 4; (case hi => rfl); (case hr => kernel_rfl); (case hT => infer_instance); (case hL => infer_instance); (case hz => rfl); (case hl => rfl); (case hv => (simp only [List.map_cons, List.map_nil]; repeat (first | with_reducible exact evs_nil | (apply evs_cons; (case h1 => rfl))))); (case hp => (first | (apply pk_cons; (case hc => rfl); (case hs => rfl); (case h => (first | (apply pk_cons; (case hc => rfl); (case hs => rfl); (case h => (first | (apply pk_cons; (case hc => rfl); (case hs => rfl); (case h => (first | with_reducible exact pk_nil | fail)); (case he => (first | ((repeat (first | with_reducible exact ap_nil | apply ap_cons)); done) | fail))) | fail)); (case he => (first | ((repeat (first | with_reducible exact ap_nil | apply ap_cons)); done) | fail))) | fail)); (case he => (first | ((repeat (first | with_reducible exact ap_nil | apply ap_cons)); done) | fail))) | fail)); (case hb => rfl); (case hd => rfl); (case hν => intro e he; first | (simp at he; simp [he]; done) | fail); intro bs) | fail)
      all_goals (first | ((apply d_call 5 (hs := qg bs) (μ1 := [(bs, .cells (rowC Cm.cells [cA, mA, cA]).toArray 38 (0, 0))]); (case hi => rfl); (case hr => kernel_rfl);  (case ha => rfl); (case hp => exact PickA.perm (by repeat (first | exact PickA.here _ | fail))); (case hd => rfl); (case hν' => intro e he; simp only [List.mem_cons, List.not_mem_nil, or_false] at he; rcases he with rfl; simp); rintro _ G6 ν6 hle6 ⟨v6, av6, rfl, hs6, hg6⟩; obtain ⟨A6, c6, A6', c6', rfl, -, -⟩ := id hs6)) | fail)
      all_goals (first | (apply d_take 6; (case hi => rfl); (case hop => first | (apply PureOp.read; apply p_move <;> rfl)); (case hf => kernel_rfl); (case hr => kernel_rfl); (case hd => rfl)) | fail)
      all_goals (first | (apply d_take 7; (case hi => rfl); (case hop => first | (apply PureOp.read; apply p_extract0 <;> rfl) | fail); (case hf => kernel_rfl); (case hr => kernel_rfl); (case hd => rfl)) | fail)
      all_goals (first | (apply d_take 8; (case hi => rfl); (case hop => first | (apply PureOp.read; apply p_extract1 <;> rfl) | fail); (case hf => kernel_rfl); (case hr => kernel_rfl); (case hd => rfl)) | fail)
      all_goals (first | (apply d_take 9; (case hi => rfl); (case hop => first | (apply PureOp.read; apply p_extract2 <;> rfl) | fail); (case hf => kernel_rfl); (case hr => kernel_rfl); (case hd => rfl)) | fail)
      all_goals (first | (apply d_store 11; (case hi => rfl); (case hr => kernel_rfl); (case hL => infer_instance); (case hp => rfl); (case hx => rfl); (case hc => rfl); (case hsz => rfl); (case h1 => rfl); (case hb => (repeat (first | exact List.Mem.head _ | apply List.mem_append_right))); (case hfit => first | exact Nat.le_of_ble_eq_true rfl | fail); (case hov => (first | ((repeat (first | with_reducible exact ov_nil | apply ov_cons | fail)); done) | fail)); (case hu => repeat (first | exact Upd.here _ _ | apply Upd.app)); (case hν' => intro e he; first | (simp at he; simp [he]; done) | fail)) | fail)
      all_goals (first | (apply d_take 12; (case hi => rfl); (case hop => first | (apply PureOp.read; apply p_assign <;> rfl)); (case hf => kernel_rfl); (case hr => kernel_rfl); (case hd => rfl)) | fail)
      all_goals (first | (apply d_take 13; (case hi => rfl); (case hop => first | (apply PureOp.read; apply p_assign <;> rfl)); (case hf => kernel_rfl); (case hr => kernel_rfl); (case hd => rfl)) | fail)
      all_goals (apply d_done; (case hr => kernel_rfl))
  case' fk1b =>
    first | (apply x_buildSlice 4; (case hi => rfl); (case hT => infer_instance); (case hL => infer_instance); (case hz => rfl); (case hl => rfl); (case hv => (simp only [List.map_cons, List.map_nil]; repeat (first | with_reducible exact evs_nil | (apply evs_cons; (case h1 => rfl))))); (case hp => (first | (apply pk_cons; (case hc => rfl); (case hs => rfl); (case h => (first | (apply pk_cons; (case hc => rfl); (case hs => rfl); (case h => (first | (apply pk_cons; (case hc => rfl); (case hs => rfl); (case h => (first | with_reducible exact pk_nil | fail)); (case he => (first | ((repeat (first | with_reducible exact ap_nil | apply ap_cons)); done) | fail))) | fail)); (case he => (first | ((repeat (first | with_reducible exact ap_nil | apply ap_cons)); done) | fail))) | fail)); (case he => (first | ((repeat (first | with_reducible exact ap_nil | apply ap_cons)); done) | fail))) | fail)); (case hb => rfl); (case hd => rfl); (case hν => intro e he; first | exact he | fail); intro bs) | fail
    refine d_fork 0 10 (by kernel_rfl) ?fk4a ?fk4b
    case' fk4a =>
      first | (apply x_exec 0; (case hi => rfl); (case hop => apply m_callFJ (hs := (q0 _)) <;> rfl); (case hd => rfl); rintro _ _ _ ⟨rfl, rfl, rfl⟩; refine ⟨(by intro e he; first | (simp at he; simp [he]; done) | fail), ?_⟩) | fail
      refine d_fork 5 10 (by kernel_rfl) ?fk5a ?fk5b
      case' fk5a =>
        first | (apply x_call 5 (hs := qg bs) (μ1 := [(bs, .cells (rowC Cm.cells [cA, mA, cA]).toArray 38 (0, 0))]); (case hi => rfl);  (case ha => rfl); (case hp => exact PickA.perm (by repeat (first | exact PickA.here _ | fail))); (case hd => rfl); (case hν' => intro e he; simp only [List.mem_cons, List.not_mem_nil, or_false] at he; rcases he with rfl; simp); rintro _ G6 ν6 hle6 ⟨v6, av6, rfl, hs6, hg6⟩; obtain ⟨A6, c6, A6', c6', rfl, -, -⟩ := id hs6) | fail
        all_goals (first | (apply d_take 6; (case hi => rfl); (case hop => first | (apply PureOp.read; apply p_move <;> rfl)); (case hf => kernel_rfl); (case hr => kernel_rfl); (case hd => rfl)) | fail)
        all_goals (first | (apply d_take 7; (case hi => rfl); (case hop => first | (apply PureOp.read; apply p_extract0 <;> rfl) | fail); (case hf => kernel_rfl); (case hr => kernel_rfl); (case hd => rfl)) | fail)
        all_goals (first | (apply d_take 8; (case hi => rfl); (case hop => first | (apply PureOp.read; apply p_extract1 <;> rfl) | fail); (case hf => kernel_rfl); (case hr => kernel_rfl); (case hd => rfl)) | fail)
        all_goals (first | (apply d_take 9; (case hi => rfl); (case hop => first | (apply PureOp.read; apply p_extract2 <;> rfl) | fail); (case hf => kernel_rfl); (case hr => kernel_rfl); (case hd => rfl)) | fail)
        all_goals (first | ((apply d_exec (d := 2) 10; (case hi => rfl); (case hr => kernel_rfl);  (case hop => exact m_alloc rfl); (case hd => rfl); rintro _ G0 _ ⟨b2, rfl, hG0, rfl⟩; subst G0; refine ⟨(by intro e he; simp only [List.mem_cons, List.not_mem_nil, or_false] at he; rcases he with rfl; simp), ?_⟩)) | fail)
        all_goals (first | (apply d_store 11; (case hi => rfl); (case hr => kernel_rfl); (case hL => infer_instance); (case hp => rfl); (case hx => rfl); (case hc => rfl); (case hsz => rfl); (case h1 => rfl); (case hb => (repeat (first | exact List.Mem.head _ | fail))); (case hfit => first | exact Nat.le_of_ble_eq_true rfl | fail); (case hov => (first | ((repeat (first | with_reducible exact ov_nil | apply ov_cons | fail)); done) | fail)); (case hu => repeat (first | exact Upd.here _ _ | fail)); (case hν' => intro e he; first | (simp at he; simp [he]; done) | fail)) | fail)
        all_goals (first | (apply d_take 12; (case hi => rfl); (case hop => first | (apply PureOp.read; apply p_assign <;> rfl)); (case hf => kernel_rfl); (case hr => kernel_rfl); (case hd => rfl)) | fail)
        all_goals (first | (apply d_take 13; (case hi => rfl); (case hop => first | (apply PureOp.read; apply p_assign <;> rfl)); (case hf => kernel_rfl); (case hr => kernel_rfl); (case hd => rfl)) | fail)
        all_goals (apply d_done; (case hr => kernel_rfl))
      case' fk5b =>
        first | (apply x_exec (d := 2) 10; (case hi => rfl);  (case hop => exact m_alloc rfl); (case hd => rfl); rintro _ G0 _ ⟨b2, rfl, hG0, rfl⟩; subst G0; refine ⟨(by intro e he; simp only [List.mem_cons, List.not_mem_nil, or_false] at he; rcases he with rfl; simp), ?_⟩) | fail
        all_goals (first | ((apply d_call 5 (hs := qg bs) (μ1 := [(bs, .cells (rowC Cm.cells [cA, mA, cA]).toArray 38 (0, 0))]); (case hi => rfl); (case hr => kernel_rfl);  (case ha => rfl); (case hp => exact PickA.perm (by repeat (first | exact PickA.here _ | apply PickA.cons | fail))); (case hd => rfl); (case hν' => intro e he; simp only [List.mem_cons, List.not_mem_nil, or_false] at he; rcases he with rfl; simp); rintro _ G6 ν6 hle6 ⟨v6, av6, rfl, hs6, hg6⟩; obtain ⟨A6, c6, A6', c6', rfl, -, -⟩ := id hs6)) | fail)
        all_goals (first | (apply d_take 6; (case hi => rfl); (case hop => first | (apply PureOp.read; apply p_move <;> rfl)); (case hf => kernel_rfl); (case hr => kernel_rfl); (case hd => rfl)) | fail)
        all_goals (first | (apply d_take 7; (case hi => rfl); (case hop => first | (apply PureOp.read; apply p_extract0 <;> rfl) | fail); (case hf => kernel_rfl); (case hr => kernel_rfl); (case hd => rfl)) | fail)
        all_goals (first | (apply d_take 8; (case hi => rfl); (case hop => first | (apply PureOp.read; apply p_extract1 <;> rfl) | fail); (case hf => kernel_rfl); (case hr => kernel_rfl); (case hd => rfl)) | fail)
        all_goals (first | (apply d_take 9; (case hi => rfl); (case hop => first | (apply PureOp.read; apply p_extract2 <;> rfl) | fail); (case hf => kernel_rfl); (case hr => kernel_rfl); (case hd => rfl)) | fail)
        all_goals (first | (apply d_store 11; (case hi => rfl); (case hr => kernel_rfl); (case hL => infer_instance); (case hp => rfl); (case hx => rfl); (case hc => rfl); (case hsz => rfl); (case h1 => rfl); (case hb => (repeat (first | exact List.Mem.head _ | apply List.mem_append_right))); (case hfit => first | exact Nat.le_of_ble_eq_true rfl | fail); (case hov => (first | ((repeat (first | with_reducible exact ov_nil | apply ov_cons | fail)); done) | fail)); (case hu => repeat (first | exact Upd.here _ _ | apply Upd.app)); (case hν' => intro e he; first | (simp at he; simp [he]; done) | fail)) | fail)
        all_goals (first | (apply d_take 12; (case hi => rfl); (case hop => first | (apply PureOp.read; apply p_assign <;> rfl)); (case hf => kernel_rfl); (case hr => kernel_rfl); (case hd => rfl)) | fail)
        all_goals (first | (apply d_take 13; (case hi => rfl); (case hop => first | (apply PureOp.read; apply p_assign <;> rfl)); (case hf => kernel_rfl); (case hr => kernel_rfl); (case hd => rfl)) | fail)
        all_goals (apply d_done; (case hr => kernel_rfl))
    case' fk4b =>
      first | (apply x_exec (d := 2) 10; (case hi => rfl);  (case hop => exact m_alloc rfl); (case hd => rfl); rintro _ G0 _ ⟨b2, rfl, hG0, rfl⟩; subst G0; refine ⟨(by intro e he; simp only [List.mem_cons, List.not_mem_nil, or_false] at he; rcases he with rfl; simp), ?_⟩) | fail
      all_goals (first | (apply d_callJ 0 (hs := (q0 _)); (case hi => rfl); (case hr => kernel_rfl); (case ha => rfl); (case hd => rfl)) | fail)
      all_goals (first | ((apply d_call 5 (hs := qg bs) (μ1 := [(bs, .cells (rowC Cm.cells [cA, mA, cA]).toArray 38 (0, 0))]); (case hi => rfl); (case hr => kernel_rfl);  (case ha => rfl); (case hp => exact PickA.perm (by repeat (first | exact PickA.here _ | apply PickA.cons | fail))); (case hd => rfl); (case hν' => intro e he; simp only [List.mem_cons, List.not_mem_nil, or_false] at he; rcases he with rfl; simp); rintro _ G6 ν6 hle6 ⟨v6, av6, rfl, hs6, hg6⟩; obtain ⟨A6, c6, A6', c6', rfl, -, -⟩ := id hs6)) | fail)
      all_goals (first | (apply d_take 6; (case hi => rfl); (case hop => first | (apply PureOp.read; apply p_move <;> rfl)); (case hf => kernel_rfl); (case hr => kernel_rfl); (case hd => rfl)) | fail)
      all_goals (first | (apply d_take 7; (case hi => rfl); (case hop => first | (apply PureOp.read; apply p_extract0 <;> rfl) | fail); (case hf => kernel_rfl); (case hr => kernel_rfl); (case hd => rfl)) | fail)
      all_goals (first | (apply d_take 8; (case hi => rfl); (case hop => first | (apply PureOp.read; apply p_extract1 <;> rfl) | fail); (case hf => kernel_rfl); (case hr => kernel_rfl); (case hd => rfl)) | fail)
      all_goals (first | (apply d_take 9; (case hi => rfl); (case hop => first | (apply PureOp.read; apply p_extract2 <;> rfl) | fail); (case hf => kernel_rfl); (case hr => kernel_rfl); (case hd => rfl)) | fail)
      all_goals (first | (apply d_store 11; (case hi => rfl); (case hr => kernel_rfl); (case hL => infer_instance); (case hp => rfl); (case hx => rfl); (case hc => rfl); (case hsz => rfl); (case h1 => rfl); (case hb => (repeat (first | exact List.Mem.head _ | apply List.mem_append_right))); (case hfit => first | exact Nat.le_of_ble_eq_true rfl | fail); (case hov => (first | ((repeat (first | with_reducible exact ov_nil | apply ov_cons | fail)); done) | fail)); (case hu => repeat (first | exact Upd.here _ _ | apply Upd.app)); (case hν' => intro e he; first | (simp at he; simp [he]; done) | fail)) | fail)
      all_goals (first | (apply d_take 12; (case hi => rfl); (case hop => first | (apply PureOp.read; apply p_assign <;> rfl)); (case hf => kernel_rfl); (case hr => kernel_rfl); (case hd => rfl)) | fail)
      all_goals (first | (apply d_take 13; (case hi => rfl); (case hop => first | (apply PureOp.read; apply p_assign <;> rfl)); (case hf => kernel_rfl); (case hr => kernel_rfl); (case hd => rfl)) | fail)
      all_goals (apply d_done; (case hr => kernel_rfl))
  case' fk1c =>
    first | (apply x_exec (d := 2) 10; (case hi => rfl);  (case hop => exact m_alloc rfl); (case hd => rfl); rintro _ G0 _ ⟨b2, rfl, hG0, rfl⟩; subst G0; refine ⟨(by intro e he; simp only [List.mem_cons, List.not_mem_nil, or_false] at he; rcases he with rfl; simp), ?_⟩) | fail
    refine d_fork 0 4 (by kernel_rfl) ?fk6a ?fk6b
    case' fk6a =>
      first | (apply x_exec 0; (case hi => rfl); (case hop => apply m_callFJ (hs := (q0 _)) <;> rfl); (case hd => rfl); rintro _ _ _ ⟨rfl, rfl, rfl⟩; refine ⟨(by intro e he; first | (simp at he; simp [he]; done) | fail), ?_⟩) | fail
      all_goals (first | (apply d_buildSlice 4; (case hi => rfl); (case hr => kernel_rfl); (case hT => infer_instance); (case hL => infer_instance); (case hz => rfl); (case hl => rfl); (case hv => (simp only [List.map_cons, List.map_nil]; repeat (first | with_reducible exact evs_nil | (apply evs_cons; (case h1 => rfl))))); (case hp => (first | (apply pk_cons; (case hc => rfl); (case hs => rfl); (case h => (first | (apply pk_cons; (case hc => rfl); (case hs => rfl); (case h => (first | (apply pk_cons; (case hc => rfl); (case hs => rfl); (case h => (first | with_reducible exact pk_nil | fail)); (case he => (first | ((repeat (first | with_reducible exact ap_nil | apply ap_cons)); done) | fail))) | fail)); (case he => (first | ((repeat (first | with_reducible exact ap_nil | apply ap_cons)); done) | fail))) | fail)); (case he => (first | ((repeat (first | with_reducible exact ap_nil | apply ap_cons)); done) | fail))) | fail)); (case hb => rfl); (case hd => rfl); (case hν => intro e he; first | (simp at he; simp [he]; done) | fail); intro bs) | fail)
      all_goals (first | ((apply d_call 5 (hs := qg bs) (μ1 := [(bs, .cells (rowC Cm.cells [cA, mA, cA]).toArray 38 (0, 0))]); (case hi => rfl); (case hr => kernel_rfl);  (case ha => rfl); (case hp => exact PickA.perm (by repeat (first | exact PickA.here _ | fail))); (case hd => rfl); (case hν' => intro e he; simp only [List.mem_cons, List.not_mem_nil, or_false] at he; rcases he with rfl; simp); rintro _ G6 ν6 hle6 ⟨v6, av6, rfl, hs6, hg6⟩; obtain ⟨A6, c6, A6', c6', rfl, -, -⟩ := id hs6)) | fail)
      all_goals (first | (apply d_take 6; (case hi => rfl); (case hop => first | (apply PureOp.read; apply p_move <;> rfl)); (case hf => kernel_rfl); (case hr => kernel_rfl); (case hd => rfl)) | fail)
      all_goals (first | (apply d_take 7; (case hi => rfl); (case hop => first | (apply PureOp.read; apply p_extract0 <;> rfl) | fail); (case hf => kernel_rfl); (case hr => kernel_rfl); (case hd => rfl)) | fail)
      all_goals (first | (apply d_take 8; (case hi => rfl); (case hop => first | (apply PureOp.read; apply p_extract1 <;> rfl) | fail); (case hf => kernel_rfl); (case hr => kernel_rfl); (case hd => rfl)) | fail)
      all_goals (first | (apply d_take 9; (case hi => rfl); (case hop => first | (apply PureOp.read; apply p_extract2 <;> rfl) | fail); (case hf => kernel_rfl); (case hr => kernel_rfl); (case hd => rfl)) | fail)
      all_goals (first | (apply d_store 11; (case hi => rfl); (case hr => kernel_rfl); (case hL => infer_instance); (case hp => rfl); (case hx => rfl); (case hc => rfl); (case hsz => rfl); (case h1 => rfl); (case hb => (repeat (first | exact List.Mem.head _ | apply List.mem_append_right))); (case hfit => first | exact Nat.le_of_ble_eq_true rfl | fail); (case hov => (first | ((repeat (first | with_reducible exact ov_nil | apply ov_cons | fail)); done) | fail)); (case hu => repeat (first | exact Upd.here _ _ | apply Upd.app)); (case hν' => intro e he; first | (simp at he; simp [he]; done) | fail)) | fail)
      all_goals (first | (apply d_take 12; (case hi => rfl); (case hop => first | (apply PureOp.read; apply p_assign <;> rfl)); (case hf => kernel_rfl); (case hr => kernel_rfl); (case hd => rfl)) | fail)
      all_goals (first | (apply d_take 13; (case hi => rfl); (case hop => first | (apply PureOp.read; apply p_assign <;> rfl)); (case hf => kernel_rfl); (case hr => kernel_rfl); (case hd => rfl)) | fail)
      all_goals (apply d_done; (case hr => kernel_rfl))
    case' fk6b =>
      first | (apply x_buildSlice 4; (case hi => rfl); (case hT => infer_instance); (case hL => infer_instance); (case hz => rfl); (case hl => rfl); (case hv => (simp only [List.map_cons, List.map_nil]; repeat (first | with_reducible exact evs_nil | (apply evs_cons; (case h1 => rfl))))); (case hp => (first | (apply pk_cons; (case hc => rfl); (case hs => rfl); (case h => (first | (apply pk_cons; (case hc => rfl); (case hs => rfl); (case h => (first | (apply pk_cons; (case hc => rfl); (case hs => rfl); (case h => (first | with_reducible exact pk_nil | fail)); (case he => (first | ((repeat (first | with_reducible exact ap_nil | apply ap_cons)); done) | fail))) | fail)); (case he => (first | ((repeat (first | with_reducible exact ap_nil | apply ap_cons)); done) | fail))) | fail)); (case he => (first | ((repeat (first | with_reducible exact ap_nil | apply ap_cons)); done) | fail))) | fail)); (case hb => rfl); (case hd => rfl); (case hν => intro e he; first | (simp at he; simp [he]; done) | fail); intro bs) | fail
      all_goals (first | (apply d_callJ 0 (hs := (q0 _)); (case hi => rfl); (case hr => kernel_rfl); (case ha => rfl); (case hd => rfl)) | fail)
      all_goals (first | ((apply d_call 5 (hs := qg bs) (μ1 := [(bs, .cells (rowC Cm.cells [cA, mA, cA]).toArray 38 (0, 0))]); (case hi => rfl); (case hr => kernel_rfl);  (case ha => rfl); (case hp => exact PickA.perm (by repeat (first | exact PickA.here _ | fail))); (case hd => rfl); (case hν' => intro e he; simp only [List.mem_cons, List.not_mem_nil, or_false] at he; rcases he with rfl; simp); rintro _ G6 ν6 hle6 ⟨v6, av6, rfl, hs6, hg6⟩; obtain ⟨A6, c6, A6', c6', rfl, -, -⟩ := id hs6)) | fail)
      all_goals (first | (apply d_take 6; (case hi => rfl); (case hop => first | (apply PureOp.read; apply p_move <;> rfl)); (case hf => kernel_rfl); (case hr => kernel_rfl); (case hd => rfl)) | fail)
      all_goals (first | (apply d_take 7; (case hi => rfl); (case hop => first | (apply PureOp.read; apply p_extract0 <;> rfl) | fail); (case hf => kernel_rfl); (case hr => kernel_rfl); (case hd => rfl)) | fail)
      all_goals (first | (apply d_take 8; (case hi => rfl); (case hop => first | (apply PureOp.read; apply p_extract1 <;> rfl) | fail); (case hf => kernel_rfl); (case hr => kernel_rfl); (case hd => rfl)) | fail)
      all_goals (first | (apply d_take 9; (case hi => rfl); (case hop => first | (apply PureOp.read; apply p_extract2 <;> rfl) | fail); (case hf => kernel_rfl); (case hr => kernel_rfl); (case hd => rfl)) | fail)
      all_goals (first | (apply d_store 11; (case hi => rfl); (case hr => kernel_rfl); (case hL => infer_instance); (case hp => rfl); (case hx => rfl); (case hc => rfl); (case hsz => rfl); (case h1 => rfl); (case hb => (repeat (first | exact List.Mem.head _ | apply List.mem_append_right))); (case hfit => first | exact Nat.le_of_ble_eq_true rfl | fail); (case hov => (first | ((repeat (first | with_reducible exact ov_nil | apply ov_cons | fail)); done) | fail)); (case hu => repeat (first | exact Upd.here _ _ | apply Upd.app)); (case hν' => intro e he; first | (simp at he; simp [he]; done) | fail)) | fail)
      all_goals (first | (apply d_take 12; (case hi => rfl); (case hop => first | (apply PureOp.read; apply p_assign <;> rfl)); (case hf => kernel_rfl); (case hr => kernel_rfl); (case hd => rfl)) | fail)
      all_goals (first | (apply d_take 13; (case hi => rfl); (case hop => first | (apply PureOp.read; apply p_assign <;> rfl)); (case hf => kernel_rfl); (case hr => kernel_rfl); (case hd => rfl)) | fail)
      all_goals (apply d_done; (case hr => kernel_rfl))
  all_goals
    (refine v_frz ν6 (by repeat (first | exact PickA.here _ | apply PickA.cons | fail)) ?_
     intro G7 hle7 hG7
     obtain ⟨A7, c7, e7, hlc7, hcm7, hsome7, hcp7⟩ := rowOpen (row_of_grow An.len hg6 hG7)
     subst e7
     have hA7 := hsome7 (by decide)
     have k0 := (hcp7 0 (by decide)).cell (j := 2) rfl
     have k2 := (hcp7 2 (by decide)).cell (j := 2) rfl
     rw [show ([⟨1, 1, 14, false, ByteArray.empty, 0⟩, zA, ⟨1, 1, 10, false, ByteArray.empty, 0⟩] : List An).length = 3 from rfl])
  all_goals
    repeat' (first | apply v_seq | apply v_region | apply v_nil | (apply v_take; (case hg => rfl)) | (apply v_pure; (case hop => first | (apply p_move <;> rfl) | (apply p_eqs <;> rfl) | (apply p_assign <;> rfl) | (apply p_pickT <;> rfl) | (apply p_lenSlice <;> rfl) | (apply p_fieldAddrB <;> rfl) | (apply p_fieldAddr <;> rfl) | (apply p_indexAddrS; (case hx => rfl); (case hi => rfl); (case h0 => omega); (case h => omega); (case hA => first | assumption | fail)) | fail); (case hd => rfl)) | (apply v_read; (case hop => (apply r_load1; rfl; exact Cell.frozen k0)); (case hd => rfl)) | (apply v_read; (case hop => (apply r_load1; rfl; exact Cell.frozen k2)); (case hd => rfl)) | fail)
  all_goals
    (refine v_ret [] (outsA1 rfl rfl) (by repeat (first | exact List.nil_sublist _ | fail)) ?_
     exact ⟨rfl, rfl⟩)
end Go.Proofs.YtgflmkhfachlcaaGreatDoor
/-
  AppOnce (layer 28), the plain law.
-/
set_option linter.unusedSimpArgs false
set_option linter.unusedVariables false
namespace Go.Proofs.YtgflmkhfachlcaaGreatDoor
open Go.Vx Go.ChangeShapes Go.WideShapes Go.ChangeAt Go.RowKit
abbrev Own (c : Cm) : Prop := 2 ≤ c.kind ∧ c.kind ≤ 5
def HasLast (s : St) (c : Cm) (a : An) : Prop := ∃ x ∈ s.sess, x.client = c.client ∧ x.seq = c.seq ∧ x.last = a
theorem applyS_own {s : St} {c : Cm} (hc : cmdI c = 0) (ho : Own c) : applyS s c = ((clientS s c).1, (clientS s c).2, 0) := by
  unfold applyS
  rw [if_neg (fun h => h hc), if_pos ho]
theorem doOne_err (l : List Pr) (c : Cm) : (doOne l c).2.err ≠ 14 ∧ (doOne l c).2.err ≠ 15 := by
  unfold doOne ans0
  (repeat' split) <;> simp
theorem doS_err {z : Int} {l : List Pr} {c : Cm} (h5 : c.kind ≠ 5) : (doS z l c).2.err ≠ 14 ∧ (doS z l c).2.err ≠ 15 := by
  have h := doOne_err l c
  unfold doS
  split
  · exact h
  · unfold doTwo
    rw [if_neg h5]
    split
    · exact h
    · exact h
theorem once_err {s : St} {c : Cm} (hc : cmdI c = 0) (ho : Own c) (h : (applyS s c).2.1.err = 15 ∨ (applyS s c).2.1.err = 14) : (applyS s c).1 = s ∨ c.kind = 5 := by
  rw [applyS_own hc ho] at h ⊢
  simp only at h ⊢
  by_cases h5 : c.kind = 5
  · exact .inr h5
  · refine .inl ?_
    unfold clientS at h ⊢
    split
    · rfl
    split
    · rfl
    split
    · rename_i w1 w2 w3
      rw [if_neg w1, if_neg w2, if_pos w3] at h
      have := doS_err (z := s.schema) (l := s.pairs) h5
      rcases h with h | h
      · exact absurd h this.2
      · exact absurd h this.1
    · rfl
theorem once_has {s : St} {c : Cm} (hs : StP s) (hc : cmdI c = 0) (ho : Own c) (h1 : (applyS s c).2.1.err ≠ 15) (h2 : (applyS s c).2.1.err ≠ 14) : HasLast (applyS s c).1 c (applyS s c).2.1 := by
  rw [applyS_own hc ho] at h1 h2 ⊢
  simp only at h1 h2 ⊢
  obtain ⟨p1, p2, p3, p4⟩ := stP_iff.1 hs
  obtain ⟨c1, c2, c3⟩ := cmd_ok hc
  unfold clientS at h1 h2 ⊢
  split
  · rename_i w1
    obtain ⟨x, hx, e1, e2, e3, e4⟩ := which_ok p1 w1
    exact ⟨x, hx, e1, e2, e3.symm⟩
  split
  · rename_i w1 w2
    rw [if_neg w1, if_pos w2] at h1
    exact absurd rfl h1
  split
  · have hd := (doS_ok c p2 p3 (c2 ho).2.2 c3).2
    refine ⟨sesOf (doS s.schema s.pairs c).2, ?_, hd.1, hd.2.1, rfl⟩
    unfold withG
    exact List.mem_append_right _ List.mem_cons_self
  · rename_i w1 w2 w3
    rw [if_neg w1, if_neg w2, if_neg w3] at h2
    exact absurd rfl h2
theorem once_keep {s : St} {c d : Cm} {a : An} (hs : StP s) (hh : HasLast s c a) (hd : cmdI d = 0) (hne : d.client ≠ c.client) : HasLast (applyS s d).1 c a := by
  obtain ⟨x, hx, e1, e2, e3⟩ := hh
  obtain ⟨p1, p2, p3, p4⟩ := stP_iff.1 hs
  obtain ⟨c1, c2, c3⟩ := cmd_ok hd
  unfold applyS
  rw [if_neg (fun h => h hd)]
  split
  · rename_i ho
    unfold clientS
    split
    · exact ⟨x, hx, e1, e2, e3⟩
    split
    · exact ⟨x, hx, e1, e2, e3⟩
    split
    · have ha := (doS_ok d p2 p3 (c2 ho).2.2 c3).2
      refine ⟨x, ?_, e1, e2, e3⟩
      have hk : ksS (sesOf (doS s.schema s.pairs d).2) = d.client := ha.1
      unfold withG
      rw [hk]
      rcases Int.lt_or_gt_of_ne (show ksS x ≠ d.client from fun h => hne (h.symm.trans e1)) with h | h
      · exact List.mem_append_left _ (List.mem_filter.2 ⟨hx, decide_eq_true h⟩)
      · exact List.mem_append_right _ (List.mem_cons_of_mem _ (List.mem_filter.2 ⟨hx, decide_eq_true h⟩))
    · exact ⟨x, hx, e1, e2, e3⟩
  · split
    · exact ⟨x, hx, e1, e2, e3⟩
    · exact ⟨x, hx, e1, e2, e3⟩
theorem rise_uniq {l : List Ss} (h : RiseW ksS l) {x y : Ss} (hx : x ∈ l) (hy : y ∈ l) (e : x.client = y.client) : x = y := by
  obtain ⟨i, hi, rfl⟩ := List.getElem_of_mem hx
  obtain ⟨j, hj, rfl⟩ := List.getElem_of_mem hy
  have hg := riseG_pw.2 h
  rcases Nat.lt_trichotomy i j with hij | hij | hij
  · have := hg i j hj hij; simp only [ksS] at this; omega
  · subst hij; rfl
  · have := hg j i hi hij; simp only [ksS] at this; omega
theorem once_again {s : St} {c : Cm} {a : An} (hs : StP s) (hh : HasLast s c a) (hc : cmdI c = 0) (ho : Own c) : applyS s c = (s, a, 0) := by
  obtain ⟨x, hx, e1, e2, e3⟩ := hh
  obtain ⟨p1, p2, p3, p4⟩ := stP_iff.1 hs
  have hr := riseG_pw.1 (adjS_rise p1.1)
  have hit : hitG ksS s.sess c.client = true := (hit_iff hr).2 ⟨x, hx, e1⟩
  have hm := sesAt_mem hr hit
  have hxe : sesAt s.sess c.client = x := rise_uniq hr hm.1 hx (hm.2.trans e1.symm)
  have hw : whichS s.sess c.client c.seq = (1, a) := by
    unfold whichS
    rw [hit, if_neg (by simp), hxe, if_neg (by omega), if_pos e2.symm, e3]
  rw [applyS_own hc ho]
  unfold clientS
  rw [hw]
  rfl
end Go.Proofs.YtgflmkhfachlcaaGreatDoor
/-
  A state, a command, commands that are arguments; the two tables. (As argR.vx, of another seat.)
-/
set_option linter.unusedSimpArgs false
set_option linter.unusedVariables false
namespace Go.Proofs.YtgflmkhfachlcaaGreatDoor
open Go.Vx Go.ChangeShapes Go.WideShapes Go.ChangeAt Go.RowKit
def CmR (c : Cm) (cs : List Value) : Prop := cs = c.cells ∧ c.ok
theorem el_cm {H : Type} {enc : TypeId × Value → H} {W : World} : Elem enc Tryz.prog W 38 CmR := by
  intro fuel cs x hf
  have h1 := el_flen (n := 7) Tryz.underlying38 (by kernel_rfl) hf
  obtain ⟨a0, h0, w0⟩ := el_fld (i := 0) (sz := 1) (by kernel_rfl) (el_int Tryz.underlying3) hf
  obtain ⟨a1, e1, w1⟩ := el_fld (i := 1) (sz := 1) (by kernel_rfl) (el_int Tryz.underlying3) hf
  obtain ⟨a2, e2, w2⟩ := el_fld (i := 2) (sz := 1) (by kernel_rfl) (el_int Tryz.underlying3) hf
  obtain ⟨a3, e3, w3⟩ := el_fld (i := 3) (sz := 1) (by kernel_rfl) (el_string Tryz.underlying9) hf
  obtain ⟨a4, e4, w4⟩ := el_fld (i := 4) (sz := 1) (by kernel_rfl) (el_string Tryz.underlying9) hf
  obtain ⟨a5, e5, w5⟩ := el_fld (i := 5) (sz := 1) (by kernel_rfl) (el_string Tryz.underlying9) hf
  obtain ⟨a6, e6, w6⟩ := el_fld (i := 6) (sz := 1) (by kernel_rfl) (el_int Tryz.underlying3) hf
  match cs, h1 with
  | [c0, c1, c2, c3, c4, c5, c6], _ =>
    simp only [List.drop_succ_cons, List.drop_zero, List.take_succ_cons, List.take_zero, List.cons.injEq, and_true] at h0 e1 e2 e3 e4 e5 e6
    exact ⟨⟨a0, a1, a2, a3, a4, a5, a6⟩, by rw [h0, e1, e2, e3, e4, e5, e6]; rfl, w0, w1, w2, w3, w4, w5, w6⟩
theorem el_pr {H : Type} {enc : TypeId × Value → H} {W : World} : Elem enc Tryz.prog W 65 (RowR Pr.cells) := by
  intro fuel cs x hf
  have h1 := el_flen (n := 3) Tryz.underlying65 (by kernel_rfl) hf
  obtain ⟨a0, e0, w0⟩ := el_fld (i := 0) (sz := 1) (by kernel_rfl) (el_string Tryz.underlying9) hf
  obtain ⟨a1, e1, w1⟩ := el_fld (i := 1) (sz := 1) (by kernel_rfl) (el_string Tryz.underlying9) hf
  obtain ⟨a2, e2, w2⟩ := el_fld (i := 2) (sz := 1) (by kernel_rfl) (el_int Tryz.underlying3) hf
  match cs, h1 with
  | [c0, c1, c2], _ =>
    simp only [List.drop_succ_cons, List.drop_zero, List.take_succ_cons, List.take_zero, List.cons.injEq, and_true] at e0 e1 e2
    exact ⟨⟨a0, a1, a2⟩, by rw [e0, e1, e2]; rfl⟩
theorem el_an {H : Type} {enc : TypeId × Value → H} {W : World} : Elem enc Tryz.prog W 42 (RowR An.cells) := by
  intro fuel cs x hf
  have h1 := el_flen (n := 6) Tryz.underlying42 (by kernel_rfl) hf
  obtain ⟨a0, e0, w0⟩ := el_fld (i := 0) (sz := 1) (by kernel_rfl) (el_int Tryz.underlying3) hf
  obtain ⟨a1, e1, w1⟩ := el_fld (i := 1) (sz := 1) (by kernel_rfl) (el_int Tryz.underlying3) hf
  obtain ⟨a2, e2, w2⟩ := el_fld (i := 2) (sz := 1) (by kernel_rfl) (el_int (k := .i64) Tryz.underlying31) hf
  obtain ⟨a3, e3⟩ := el_fld (i := 3) (sz := 1) (by kernel_rfl) (el_bool Tryz.underlying4) hf
  obtain ⟨a4, e4, w4⟩ := el_fld (i := 4) (sz := 1) (by kernel_rfl) (el_string Tryz.underlying9) hf
  obtain ⟨a5, e5, w5⟩ := el_fld (i := 5) (sz := 1) (by kernel_rfl) (el_int Tryz.underlying3) hf
  match cs, h1 with
  | [c0, c1, c2, c3, c4, c5], _ =>
    simp only [BoolR, List.drop_succ_cons, List.drop_zero, List.take_succ_cons, List.take_zero, List.cons.injEq, and_true] at e0 e1 e2 e3 e4 e5
    exact ⟨⟨a0, a1, a2, a3, a4, a5⟩, by rw [e0, e1, e2, e3, e4, e5]; rfl⟩
theorem el_ss {H : Type} {enc : TypeId × Value → H} {W : World} : Elem enc Tryz.prog W 55 (RowR Ss.cells) := by
  intro fuel cs x hf
  have h1 := el_flen (n := 8) Tryz.underlying55 (by kernel_rfl) hf
  obtain ⟨a0, e0, w0⟩ := el_fld (i := 0) (sz := 1) (by kernel_rfl) (el_int Tryz.underlying3) hf
  obtain ⟨a1, e1, w1⟩ := el_fld (i := 1) (sz := 1) (by kernel_rfl) (el_int Tryz.underlying3) hf
  obtain ⟨a2, e2⟩ := el_fld (i := 2) (sz := 6) (by kernel_rfl) el_an hf
  match cs, h1 with
  | [c0, c1, c2, c3, c4, c5, c6, c7], _ =>
    simp only [RowR, An.cells, List.drop_succ_cons, List.drop_zero, List.take_succ_cons, List.take_zero, List.cons.injEq, and_true] at e0 e1 e2
    obtain ⟨rfl, rfl, rfl, rfl, rfl, rfl⟩ := e2
    subst e0; subst e1
    exact ⟨⟨a0, a1, a2⟩, rfl⟩
theorem el_st {H : Type} {enc : TypeId × Value → H} {W : World} {fuel : Nat} {cs : List Value} {x : DataW H × List MemPlace} (hf : DataW.trod enc Tryz.prog W 0 (fun _ => true) true fuel 25 cs = some x) : ∃ s : St, StV (ghost W) s (.agg cs.toArray) := by
  have h1 := el_flen (n := 3) Tryz.underlying25 (by kernel_rfl) hf
  obtain ⟨a0, e0, w0⟩ := el_fld (i := 0) (sz := 1) (by kernel_rfl) (el_int Tryz.underlying3) hf
  obtain ⟨l1, v1, e1, s1⟩ := el_fld (i := 1) (sz := 1) (by kernel_rfl) (el_slice (sz := 3) Tryz.underlying22 (by kernel_rfl) el_pr) hf
  obtain ⟨l2, v2, e2, s2⟩ := el_fld (i := 2) (sz := 1) (by kernel_rfl) (el_slice (sz := 8) Tryz.underlying23 (by kernel_rfl) el_ss) hf
  match cs, h1 with
  | [c0, c1, c2], _ =>
    simp only [List.drop_succ_cons, List.drop_zero, List.take_succ_cons, List.take_zero, List.cons.injEq, and_true] at e0 e1 e2
    subst e0; subst e1; subst e2
    exact ⟨⟨a0, l1, l2⟩, StV.mk' s1 s2⟩
set_option maxRecDepth 100000 in
theorem arg_t25 {H : Type} {enc : TypeId × Value → H} {W : World} {base : Nat} {v : Value} {d : DataW H} {p : List MemPlace} (hv : Value.okWide Tryz.prog W .any base 25 v) (h : DataW.Trod enc Tryz.prog W 0 (fun _ => true) true 25 v d p) : ∃ s : St, StV (ghost W) s v := by
  obtain ⟨cs, rfl⟩ := okWide_agg (by kernel_rfl) hv
  obtain ⟨fuel, hf⟩ := h
  exact el_st hf
set_option maxRecDepth 100000 in
theorem arg_t38 {H : Type} {enc : TypeId × Value → H} {W : World} {base : Nat} {v : Value} {d : DataW H} {p : List MemPlace} (hv : Value.okWide Tryz.prog W .any base 38 v) (h : DataW.Trod enc Tryz.prog W 0 (fun _ => true) true 38 v d p) : ∃ c : Cm, v = .agg c.cells.toArray ∧ c.ok := by
  obtain ⟨cs, rfl⟩ := okWide_agg (by kernel_rfl) hv
  obtain ⟨fuel, hf⟩ := h
  obtain ⟨c, e, hc⟩ := el_cm _ _ _ hf
  have e2 : cs.toList.toArray = c.cells.toArray := congrArg List.toArray e
  rw [Array.toArray_toList] at e2
  exact ⟨c, by rw [e2], hc⟩
set_option maxRecDepth 100000 in
theorem arg_t26 {H : Type} {enc : TypeId × Value → H} {W : World} {base : Nat} {v : Value} {d : DataW H} {p : List MemPlace} (hv : Value.okWide Tryz.prog W .any base 26 v) (h : DataW.Trod enc Tryz.prog W 0 (fun _ => true) true 26 v d p) : ∃ l : List Cm, Sl (ghost W) 7 CmR v l :=
  arg_slice Tryz.underlying26 (by kernel_rfl) el_cm hv h
theorem cms_of {G : GH} {v : Value} {l : List Cm} (h : Sl G 7 CmR v l) : Cms G v l ∧ ∀ c ∈ l, c.ok := by
  obtain ⟨A, c, rfl, h1, h2, h3, h4⟩ := h.open
  refine ⟨Sl.le h (GH.le_refl _) (fun _ _ hx => hx.1), fun x hx => ?_⟩
  obtain ⟨i, hi, rfl⟩ := List.getElem_of_mem hx
  obtain ⟨cs, _, h5, h6⟩ := h4 i _ (List.getElem?_eq_getElem hi)
  exact h5.2
theorem firstEq : (Rows.laid_unicode_utf8_first : DataW Unit) = Lib.firstData := by kernel_rfl
theorem acceptEq : (Rows.laid_unicode_utf8_acceptRanges : DataW Unit) = Lib.acceptData := by kernel_rfl
abbrev tabsLaid : List (String × DataW Unit) := [("unicode/utf8.acceptRanges", Rows.laid_unicode_utf8_acceptRanges), ("unicode/utf8.first", Rows.laid_unicode_utf8_first)]
theorem tabs_plain : (tabsLaid.all fun x => x.2.handleName?.isNone) = true := by kernel_rfl
theorem tabs_of_laid {W : World} (hL : laidMetH Tryz.prog tabsLaid W) : TabsG (ghost W) := by
  rw [MakeChecks.laidMetH_plain _ _ _ tabs_plain] at hL
  have r1 := Lib.laidMet.reads hL (.tail _ (.head _))
  have r2 := Lib.laidMet.reads hL (.head _)
  rw [firstEq] at r1
  rw [acceptEq] at r2
  have hU := utf8Tabs_of_readsT (ρ := laysDecode_ren) { laysDecode with } ⟨by kernel_rfl, by kernel_rfl, by kernel_rfl, by kernel_rfl, by kernel_rfl, by kernel_rfl, by kernel_rfl⟩ r1 r2
  clear hL r1 r2
  intro w hw
  have lift : ∀ (a : Addr) v, W.cell? a = some v → w.cell? a = some v := by
    intro a v h
    unfold World.cell? at h ⊢
    cases hb : W.heap[a.block]? with
    | none => rw [hb] at h; simp at h
    | some o => rw [hw _ _ hb]; rw [hb] at h; exact h
  exact ⟨fun c hc => lift _ _ (hU.1 c hc), fun i hi => ⟨lift _ _ (hU.2 i hi).1, lift _ _ (hU.2 i hi).2⟩⟩
end Go.Proofs.YtgflmkhfachlcaaGreatDoor
/-
  AppOnce (layer 28). (Printed by genQ.py.)
-/
set_option linter.unusedSimpArgs false
set_option linter.unusedVariables false
namespace Go.Proofs.YtgflmkhfachlcaaGreatDoor
open Go.Vx Go.ChangeShapes Go.WideShapes Go.ChangeAt Go.RowKit
theorem appOnce_law {W : World} {v0 v1 v2 : Value} (hT : TabsG (ghost W)) (g0 : ∃ s : St, StV (ghost W) s v0) (g1 : ∃ c : Cm, v1 = .agg c.cells.toArray ∧ c.ok) (g2 : ∃ l : List Cm, Sl (ghost W) 7 CmR v2 l) : LawCon Tryz.prog 4 #[v0, v1, v2] W := by
  obtain ⟨s, hs⟩ := g0
  obtain ⟨c, rfl, hco⟩ := g1
  obtain ⟨l, hl0⟩ := g2
  obtain ⟨hl, hok⟩ := cms_of hl0
  unfold LawCon
  generalize ghost W = G at *
  have q1 := lg25_s hs
  have q2 := lg28_s hl
  have qa := fun G' (h : GH.le G G') => awake28_s (hT.up h)
  have qg : ∀ b, Con Tryz.prog 7 #[.slice (some ⟨b, 0, none⟩) 1 1] G [(b, .cells (rowC Cm.cells [c]).toArray 38 (0, 0))] (fun r _ μ' => μ' = [] ∧ ∃ b, r = .bool b ∧ (b = false → CmsS [c])) := fun b => Con.give (fun G' hle hG => (lg28_s (madeC (l := [c]) (by simp) (hG _ _ (List.Mem.head _)))).mono fun _ _ _ h => h.2)
  obtain ⟨LA, lc, rfl, hlc, hcm, hsome, hcp⟩ := rowOpen hl
  simp only [maxLen] at hcm
  obtain ⟨A, c0, A', c', rfl, -, -⟩ := id hs
  have hcc := fun G' => refCmdCheck_s (G := G') c hco
  have qo := fun G' => owned_s G' c.kind
  have once1 := fun a b => once_err (s := s) (c := c) a b
  have once2 := fun hp a b d e => once_has (s := s) (c := c) hp a b d e
  have once3 := fun (s' : St) (d : Cm) (a : An) hp hh hd hn => once_keep (s := s') (c := c) (d := d) (a := a) hp hh hd hn
  have once4 := fun (s' : St) (a : An) hp hh hd hn => once_again (s := s') (c := c) (a := a) hp hh hd hn
  have hcok := fun hp hc ho => clientS_ok (s := s) (c := c) hp hc ho
  have hao := fun hc ho => applyS_own (s := s) (c := c) hc ho
  have hal := fun G' (hT : TabsG G') (s' : St) v (hs : StV G' s' v) (hp : StP s') (hw : CmW c) => apply_s hT c hs hp.small hp hco hw
  have herr := applyS_err s c
  have haok := fun hp he => applyS_ok (s := s) (c := c) hp he
  obtain ⟨kind, cl, seq, key, val, old, node⟩ := c
  simp only at qo
  (refine v_enter Tryz.func4 rfl Tryz.ntmps4 rfl ?_; intro B _)
  repeat' (first | (apply v_box (d := 3) (zs := [.int .i64 s.schema, .slice A s.pairs.length c0, .slice A' s.sess.length c']); (case hx => rfl); (case hz => rfl); (case hd => rfl); intro b3) | (apply v_box (d := 4) (zs := Cm.cells ⟨kind, cl, seq, key, val, old, node⟩); (case hx => rfl); (case hz => rfl); (case hd => rfl); intro b4) | (apply v_read; (case hop => (apply r_loadNo; (case hx => rfl); (case h => repeat (first | exact List.Mem.head _ | apply List.Mem.tail | fail)); (case hd => rfl); (case hn => rfl))); (case hd => rfl)) | apply v_seq | apply v_region | apply v_nil | (apply v_pure; (case hop => first | (apply p_assign <;> rfl) | fail); (case hd => rfl)) | fail)
  refine v_call (μ1 := []) rfl q1 (List.Perm.refl _) rfl ?_
  rintro _ G1 _ - ⟨hG1, rfl, x1, rfl, h1⟩
  subst hG1
  cases x1 with
  | true =>
    repeat' (first | apply v_seq | apply v_region | apply v_nil | (apply v_pass; (case hg => rfl); (case hn => rfl); (case hd => rfl)) | (apply v_pure; (case hop => first | (apply p_move <;> rfl) | (apply p_pickT <;> rfl) | fail); (case hd => rfl)) | (apply v_condT; (case hc => rfl)) | fail)
    refine v_call (μ1 := []) rfl (qa _ (GH.le_refl _)) (List.Perm.refl _) rfl ?_
    rintro _ G99 _ - ⟨rfl, rfl⟩
    repeat' (first | apply v_nil | (apply v_pure; (case hop => first | (apply p_assign <;> rfl) | fail); (case hd => rfl)) | fail)
    refine v_ret [] (outsA1 rfl rfl) (by repeat (first | exact List.nil_sublist _ | fail)) ?_
    rfl
  | false =>
  repeat' (first | (apply v_take; (case hg => rfl)) | (apply v_pure; (case hop => first | (apply p_move <;> rfl) | fail); (case hd => rfl)) | fail)
  refine v_call (μ1 := []) rfl q2 (List.Perm.refl _) rfl ?_
  rintro _ G1 _ - ⟨hG1, rfl, x1, rfl, h2⟩
  subst hG1
  cases x1 with
  | true =>
    repeat' (first | apply v_seq | apply v_region | apply v_nil | (apply v_pass; (case hg => rfl); (case hn => rfl); (case hd => rfl)) | (apply v_pure; (case hop => first | (apply p_move <;> rfl) | (apply p_pickT <;> rfl) | (apply p_pickF <;> rfl) | fail); (case hd => rfl)) | (apply v_condT; (case hc => rfl)) | fail)
    refine v_call (μ1 := []) rfl (qa _ (GH.le_refl _)) (List.Perm.refl _) rfl ?_
    rintro _ G99 _ - ⟨rfl, rfl⟩
    repeat' (first | apply v_nil | (apply v_pure; (case hop => first | (apply p_assign <;> rfl) | fail); (case hd => rfl)) | fail)
    refine v_ret [] (outsA1 rfl rfl) (by repeat (first | exact List.nil_sublist _ | fail)) ?_
    rfl
  | false =>
  repeat' (first | (apply v_read; (case hop => (apply r_loadNo; (case hx => rfl); (case h => repeat (first | exact List.Mem.head _ | fail)); (case hd => rfl); (case hn => rfl))); (case hd => rfl)) | (apply v_take; (case hg => rfl)) | (apply v_pure; (case hop => first | (apply p_move <;> rfl) | (apply p_pickF <;> rfl) | fail); (case hd => rfl)) | (apply v_buildSlice; (case hz => rfl); (case hi => rfl); (case hv => (simp only [List.map_cons, List.map_nil]; repeat (first | with_reducible exact evs_nil | (apply evs_cons; (case h1 => rfl))))); (case hp => (first | (apply pk_cons; (case hc => rfl); (case hs => rfl); (case h => (first | with_reducible exact pk_nil | fail)); (case he => (first | rfl))) | fail)); (case hb => rfl); (case hd => rfl); intro b) | fail)
  refine v_call (μ1 := [(b, .cells (rowC Cm.cells [⟨kind, cl, seq, key, val, old, node⟩]).toArray 38 (0, 0))]) (μ2 := [(b4, .cells (Cm.cells ⟨kind, cl, seq, key, val, old, node⟩).toArray 38 (0, 0)), (b3, .cells [.int .i64 s.schema, .slice A s.pairs.length c0, .slice A' s.sess.length c'].toArray 25 (0, 0))]) rfl (qg b) (List.Perm.refl _) rfl ?_
  rintro _ G1 _ hle1 ⟨rfl, x1, rfl, h3⟩
  cases x1 with
  | true =>
    repeat' (first | apply v_seq | apply v_region | apply v_nil | (apply v_pass; (case hg => rfl); (case hn => rfl); (case hd => rfl)) | (apply v_pure; (case hop => first | (apply p_move <;> rfl) | (apply p_pickT <;> rfl) | (apply p_pickF <;> rfl) | fail); (case hd => rfl)) | (apply v_condT; (case hc => rfl)) | fail)
    refine v_call (μ1 := []) rfl (qa _ hle1) (List.Perm.refl _) rfl ?_
    rintro _ G99 _ - ⟨rfl, rfl⟩
    repeat' (first | apply v_nil | (apply v_pure; (case hop => first | (apply p_assign <;> rfl) | fail); (case hd => rfl)) | fail)
    refine v_ret [] (outsA1 rfl rfl) (by repeat (first | exact List.nil_sublist _ | fail)) ?_
    rfl
  | false =>
  have hz : StZ s := ⟨(h1 rfl).2.2, (h1 rfl).1.2, by have := (h1 rfl).2.1; omega, by have := (h1 rfl).1.1; omega⟩
  have hcs := h2 rfl
  have hcw : CmW ⟨kind, cl, seq, key, val, old, node⟩ := ⟨((h3 rfl).2 _ List.mem_cons_self).1, ((h3 rfl).2 _ List.mem_cons_self).2.1⟩
  have qk := refCheck_s (hs.up hle1) hz
  by_cases hp : StP s
  rotate_left
  · rw [decide_eq_false hp] at qk
    repeat' (first | (apply v_read; (case hop => (apply r_loadNo; (case hx => rfl); (case h => repeat (first | exact List.Mem.head _ | apply List.Mem.tail | fail)); (case hd => rfl); (case hn => rfl))); (case hd => rfl)) | apply v_seq | apply v_region | apply v_nil | (apply v_take; (case hg => rfl)) | (apply v_pass; (case hg => rfl); (case hn => rfl); (case hd => rfl)) | (apply v_pure; (case hop => first | (apply p_move <;> rfl) | (apply p_pickT <;> rfl) | (apply p_pickF <;> rfl) | (apply p_not <;> rfl) | fail); (case hd => rfl)) | (apply v_condT; (case hc => rfl)) | (apply v_callJ (hs := qk); (case ha => rfl); (case hd => rfl)) | fail)
    refine v_call (μ1 := []) rfl (qa _ hle1) (List.Perm.refl _) rfl ?_
    rintro _ G99 _ - ⟨rfl, rfl⟩
    repeat' (first | apply v_nil | (apply v_pure; (case hop => first | (apply p_assign <;> rfl) | fail); (case hd => rfl)) | fail)
    refine v_ret [] (outsA1 rfl rfl) (by repeat (first | exact List.nil_sublist _ | fail)) ?_
    rfl
  rw [decide_eq_true hp] at qk
  repeat' (first | (apply v_read; (case hop => (apply r_loadNo; (case hx => rfl); (case h => repeat (first | exact List.Mem.head _ | apply List.Mem.tail | fail)); (case hd => rfl); (case hn => rfl))); (case hd => rfl)) | (apply v_take; (case hg => rfl)) | (apply v_pure; (case hop => first | (apply p_move <;> rfl) | (apply p_pickF <;> rfl) | (apply p_not <;> rfl) | fail); (case hd => rfl)) | (apply v_callJ (hs := qk); (case ha => rfl); (case hd => rfl)) | fail)
  refine v_call (μ1 := []) rfl (hcc _) (List.Perm.refl _) rfl ?_
  rintro _ G2 _ hle2 ⟨rfl, rfl⟩
  have h12 := GH.le_trans hle1 hle2
  by_cases hci : cmdI ⟨kind, cl, seq, key, val, old, node⟩ = 0
  rotate_left
  · repeat' (first | apply v_seq | apply v_region | apply v_nil | (apply v_take; (case hg => rfl)) | (apply v_pass; (case hg => rfl); (case hn => rfl); (case hd => rfl)) | (apply v_pure; (case hop => first | (apply p_move <;> rfl) | (apply p_ne <;> rfl) | (apply p_pickT <;> rfl) | (apply p_pickF <;> rfl) | fail); (case hd => rfl)) | (apply v_condT; (case hc => rfl)) | (apply v_guardB; (case h1 => rfl); (case h2 => rfl); all_goals (intro h; (try simp only [reduceCtorEq, dec_true, dec_false, decide_eq_true_eq, decide_eq_false_iff_not, Bool.not_eq_true', Bool.not_eq_false', Option.isNone_iff_eq_none, beq_true, beq_false, beq_iff_eq, beq_eq_false_iff_ne, ne_eq, decide_eq_decide, Bool.not_eq_true, Bool.not_eq_false, Decidable.not_not] at h); first | (exfalso; omega) | skip)) | fail)
    all_goals first
      | (exfalso; exact absurd (by assumption) hci)
      | skip
    refine v_call (μ1 := []) rfl (qa _ h12) (List.Perm.refl _) rfl ?_
    rintro _ G99 _ - ⟨rfl, rfl⟩
    repeat' (first | apply v_nil | (apply v_pure; (case hop => first | (apply p_assign <;> rfl) | fail); (case hd => rfl)) | fail)
    refine v_ret [] (outsA1 rfl rfl) (by repeat (first | exact List.nil_sublist _ | fail)) ?_
    rfl
  have qo := qo G2
  by_cases ho : 2 ≤ kind ∧ kind ≤ 5
  rotate_left
  · rw [decide_eq_false ho] at qo
    rw [hci]
    repeat' (first | apply v_seq | apply v_region | apply v_nil | (apply v_take; (case hg => rfl)) | (apply v_pure; (case hop => first | (apply p_move <;> rfl) | (apply p_nes <;> rfl) | (apply p_pickF <;> rfl) | (apply p_not <;> rfl) | (apply p_fieldAddrB <;> rfl) | fail); (case hd => rfl)) | (apply v_condT; (case hc => rfl)) | (apply v_callJ (hs := qo); (case ha => rfl); (case hd => rfl)) | (apply v_read; (case hop => first | (apply r_load1; rfl; (apply Cell.own; (case h => (repeat (first | exact List.Mem.head _ | fail))); rfl)) | fail); (case hd => rfl)) | fail)
    refine v_call (μ1 := []) rfl (qa _ h12) (List.Perm.refl _) rfl ?_
    rintro _ G99 _ - ⟨rfl, rfl⟩
    repeat' (first | apply v_nil | (apply v_pure; (case hop => first | (apply p_assign <;> rfl) | fail); (case hd => rfl)) | fail)
    refine v_ret [] (outsA1 rfl rfl) (by repeat (first | exact List.nil_sublist _ | fail)) ?_
    rfl
  rw [decide_eq_true ho] at qo
  have hal2 := hal G2 (hT.up h12) s _ (hs.up h12) hp hcw
  have once1 := once1 hci ho
  have once2 := once2 hp hci ho
  have hk := hcok hp hci ho
  have hk2 := (haok hp (by rw [herr]; exact hci)).1
  rw [hao hci ho] at once1 once2 hal2 hk2
  generalize clientS s ⟨kind, cl, seq, key, val, old, node⟩ = ap at *
  obtain ⟨s1, ⟨ac, aq, ae, af, av, ar⟩⟩ := ap
  obtain ⟨-, -, hk3, hk4⟩ := hk
  simp only at once1 once2 hal2 hk2 hk3 hk4
  rw [hci]
  repeat' (first | (apply v_read; (case hop => (apply r_loadNo; (case hx => rfl); (case h => repeat (first | exact List.Mem.head _ | apply List.Mem.tail | fail)); (case hd => rfl); (case hn => rfl))); (case hd => rfl)) | apply v_seq | apply v_region | apply v_nil | apply v_skip | (apply v_take; (case hg => rfl)) | (apply v_pure; (case hop => first | (apply p_move <;> rfl) | (apply p_nes <;> rfl) | (apply p_pickF <;> rfl) | (apply p_not <;> rfl) | (apply p_fieldAddrB <;> rfl) | fail); (case hd => rfl)) | (apply v_condF; (case hc => rfl)) | (apply v_callJ (hs := qo); (case ha => rfl); (case hd => rfl)) | (apply v_read; (case hop => first | (apply r_load1; rfl; (apply Cell.own; (case h => (repeat (first | exact List.Mem.head _ | fail))); rfl)) | fail); (case hd => rfl)) | fail)
  refine v_call (μ1 := []) rfl hal2 (List.Perm.refl _) rfl ?_
  rintro _ G3 _ hle3 ⟨rfl, v3, rfl, hs3⟩
  obtain ⟨A3, c3, A3', c3', rfl, -, -⟩ := id hs3
  have h13 := GH.le_trans h12 hle3
  repeat' (first | (apply v_alloc (d := 7); (case hz => rfl); (case hd => rfl); intro b7) | (apply v_alloc (d := 8); (case hz => rfl); (case hd => rfl); intro b8) | (apply v_read; (case hop => (apply r_loadNo; (case hx => rfl); (case h => repeat (first | exact List.Mem.head _ | apply List.Mem.tail | fail)); (case hd => rfl); (case hn => rfl))); (case hd => rfl)) | apply v_seq | apply v_region | apply v_nil | apply v_skip | apply v_block | (apply v_take; (case hg => rfl)) | (apply v_pass; (case hg => rfl); (case hn => rfl); (case hd => rfl)) | (apply v_pure; (case hop => first | (apply p_move <;> rfl) | (apply p_nes <;> rfl) | (apply p_eq <;> rfl) | (apply p_ne <;> rfl) | (apply p_assign <;> rfl) | (apply p_pickT <;> rfl) | (apply p_pickF <;> rfl) | (apply p_fieldAddrB <;> rfl) | (apply p_extract0 <;> rfl) | (apply p_extract1 <;> rfl) | (apply p_extract2 <;> rfl) | fail); (case hd => rfl)) | (apply v_condT; (case hc => rfl)) | (apply v_cond; (case hc => rfl); all_goals (intro h; (try simp only [reduceCtorEq, dec_true, dec_false, decide_eq_true_eq, decide_eq_false_iff_not, Bool.not_eq_true', Bool.not_eq_false', Option.isNone_iff_eq_none, beq_true, beq_false, beq_iff_eq, beq_eq_false_iff_ne, ne_eq, decide_eq_decide, Bool.not_eq_true, Bool.not_eq_false, Decidable.not_not] at h); first | (exfalso; omega) | skip)) | (apply v_guardB; (case h1 => rfl); (case h2 => rfl); all_goals (intro h; (try simp only [reduceCtorEq, dec_true, dec_false, decide_eq_true_eq, decide_eq_false_iff_not, Bool.not_eq_true', Bool.not_eq_false', Option.isNone_iff_eq_none, beq_true, beq_false, beq_iff_eq, beq_eq_false_iff_ne, ne_eq, decide_eq_decide, Bool.not_eq_true, Bool.not_eq_false, Decidable.not_not] at h); first | (exfalso; omega) | skip)) | (apply v_read; (case hop => first | (apply r_load1; rfl; (apply Cell.own; (case h => (repeat (first | exact List.Mem.head _ | apply List.Mem.tail | fail))); rfl)) | fail); (case hd => rfl)) | (apply v_store; (case hp => rfl); (case hx => rfl); (case hc => rfl); (case hsz => rfl); (case h1 => rfl); (case hb => (repeat (first | exact List.Mem.head _ | apply List.Mem.tail | fail))); (case hfit => first | exact Nat.le_of_ble_eq_true rfl | fail); (case hov => (first | ((repeat (first | with_reducible exact ov_nil | apply ov_cons | fail)); done) | fail)); (case hu => repeat (first | exact Upd.here _ _ | apply Upd.there | fail))) | fail)
  all_goals try
    (refine v_call (μ1 := []) rfl (refSame_s hs3 (hs.up h13)) (List.Perm.refl _) rfl ?_
     rintro _ G4 _ - ⟨hG4, rfl, x6, rfl, h6⟩
     subst G4
     have hk5 : x6 = false → kind = 5 := fun hx => by
       rcases once1 (by first | exact .inl (by assumption) | exact .inr (by assumption)) with h | h
       · rw [h6 h] at hx; cases hx
       · exact h)
  rotate_right
  · repeat' (fail)
    refine v_perm (ν := [(b8, .cells [.int .i64 ac, .int .i64 aq, .int .i64 ae, .bool af, .string av, .int .i64 ar].toArray 42 (0, 0)), (b7, .cells [.int .i64 s1.schema, .slice A3 s1.pairs.length c3, .slice A3' s1.sess.length c3'].toArray 25 (0, 0)), (b4, .cells (Cm.cells ⟨kind, cl, seq, key, val, old, node⟩).toArray 38 (0, 0)), (b3, .cells [.int .i64 s.schema, .slice A s.pairs.length c0, .slice A' s.sess.length c'].toArray 25 (0, 0))]) (List.Perm.refl _) ?_
    refine v_loop [10, 2, 4, 7, 8] (fun us G' μ' => GH.le G3 G' ∧ ∃ (k : Nat) (s5 : St) (A5 A5' : Option Addr) (c5 c5' : Nat), k ≤ l.length ∧ us = [Value.int .i64 (k : Nat), .slice LA l.length lc, .pointer (some ⟨b4, 0, none⟩), .pointer (some ⟨b7, 0, none⟩), .pointer (some ⟨b8, 0, none⟩)] ∧ μ' = [(b8, .cells [.int .i64 ac, .int .i64 aq, .int .i64 ae, .bool af, .string av, .int .i64 ar].toArray 42 (0, 0)), (b7, .cells [.int .i64 s5.schema, .slice A5 s5.pairs.length c5, .slice A5' s5.sess.length c5'].toArray 25 (0, 0)), (b4, .cells (Cm.cells ⟨kind, cl, seq, key, val, old, node⟩).toArray 38 (0, 0)), (b3, .cells [.int .i64 s.schema, .slice A s.pairs.length c0, .slice A' s.sess.length c'].toArray 25 (0, 0))] ∧ StV G' s5 (.agg [.int .i64 s5.schema, .slice A5 s5.pairs.length c5, .slice A5' s5.sess.length c5'].toArray) ∧ StP s5 ∧ HasLast s5 ⟨kind, cl, seq, key, val, old, node⟩ ⟨ac, aq, ae, af, av, ar⟩) (fun us => l.length - (headI us).toNat) rfl ⟨GH.le_refl _, 0, s1, _, _, _, _, by omega, rfl, rfl, hs3, hk2, once2 (by assumption) (by assumption)⟩ ?_
    rintro us G' _ ⟨hle, k, s5, A5, A5', c5, c5', hk, rfl, rfl, hs5, hp5, hh5⟩
    have h1' := GH.le_trans h13 hle
    by_cases hlt : k < l.length
    · have e1 : ((k : Nat) : Int).toNat = k := by omega
      have hA := hsome (by omega)
      have hck := (rowOpen' (hl.mono h1')).2.2.2.2.2.2 k hlt
      have hck2 := fun G2 (h2 : GH.le G' G2) => (rowOpen' (hl.mono (GH.le_trans h1' h2))).2.2.2.2.2.2 k hlt
      have hmem := List.getElem_mem hlt
      have hxo := hok _ hmem
      have hxw : CmW l[k] := ⟨(hcs.2 _ hmem).1, (hcs.2 _ hmem).2.1⟩
      have qd := refCmdCheck_s (G := G') (l[k]) hxo
      have qap := fun G2 (h2 : GH.le G' G2) => apply_s (hT.up (GH.le_trans h1' h2)) (l[k]) (hs5.up h2) hp5.small hp5 hxo hxw
      have herr := applyS_err s5 l[k]
      have haok := fun (he : (applyS s5 l[k]).2.2 = 0) => applyS_ok (s := s5) (c := l[k]) hp5 he
      have hkeep := fun (hd : cmdI l[k] = 0) (hn : (l[k]).client ≠ cl) => once3 s5 l[k] ⟨ac, aq, ae, af, av, ar⟩ hp5 hh5 hd hn
      clear hmem hxo hxw
      generalize applyS s5 l[k] = ap at *
      obtain ⟨s9, ⟨dc, dq, de, df, dv, dr⟩, e9⟩ := ap
      generalize l[k] = x at *
      generalize cmdI x = ci at *
      obtain ⟨xk, xc, xs, xky, xv, xo, xn⟩ := x
      simp only at *
      have hc5 := hck.cell (j := 1) rfl
      repeat' (first | apply v_seq | apply v_region | apply v_nil | apply v_skip | apply v_block | (apply v_pure; (case hop => first | (apply p_move <;> rfl) | (apply p_lt <;> rfl) | (apply p_lenSlice <;> rfl) | fail); (case hd => rfl)) | (apply v_cond; (case hc => rfl); all_goals (intro h; (try simp only [reduceCtorEq, dec_true, dec_false, decide_eq_true_eq, decide_eq_false_iff_not, Bool.not_eq_true', Bool.not_eq_false', Option.isNone_iff_eq_none, beq_true, beq_false, beq_iff_eq, beq_eq_false_iff_ne, ne_eq, decide_eq_decide, Bool.not_eq_true, Bool.not_eq_false, Decidable.not_not] at h); first | (exfalso; omega) | skip)) | fail)
      refine d_start [(b4, .cells (Cm.cells ⟨kind, cl, seq, key, val, old, node⟩).toArray 38 (0, 0))] (by kernel_rfl) (by kernel_rfl) (by kernel_rfl) (by intro e he; first | (simp at he; simp [he]; done) | fail) ?_
      all_goals (first | (apply d_take 0; (case hi => rfl); (case hop => first | (apply PureOp.read; apply p_move <;> rfl)); (case hf => kernel_rfl); (case hr => kernel_rfl); (case hd => rfl)) | fail)
      all_goals (first | (apply d_take 1; (case hi => rfl); (case hop => first | (apply PureOp.read; apply p_move <;> rfl)); (case hf => kernel_rfl); (case hr => kernel_rfl); (case hd => rfl)) | fail)
      all_goals (first | (apply d_take 2; (case hi => rfl); (case hop => first | (apply PureOp.read; apply p_indexAddrS; (case hx => rfl); (case hi => rfl); (case h0 => omega); (case h => omega); (case hA => first | assumption | fail))); (case hf => kernel_rfl); (case hr => kernel_rfl); (case hd => rfl)) | fail)
      all_goals (first | (apply d_take 3; (case hi => rfl); (case hop => first | ((apply r_loadN; rfl; exact CellsAt.frozen hck; rfl)) | fail); (case hf => kernel_rfl); (case hr => kernel_rfl); (case hd => rfl)) | fail)
      all_goals (first | ((apply d_call 4 (hs := qd) (μ1 := []) (μ2 := [(b8, .cells [.int .i64 ac, .int .i64 aq, .int .i64 ae, .bool af, .string av, .int .i64 ar].toArray 42 (0, 0)), (b7, .cells [.int .i64 s5.schema, .slice A5 s5.pairs.length c5, .slice A5' s5.sess.length c5'].toArray 25 (0, 0)), (b4, .cells (Cm.cells ⟨kind, cl, seq, key, val, old, node⟩).toArray 38 (0, 0)), (b3, .cells [.int .i64 s.schema, .slice A s.pairs.length c0, .slice A' s.sess.length c'].toArray 25 (0, 0))]); (case hi => rfl); (case hr => kernel_rfl);  (case ha => rfl); (case hp => exact List.Perm.refl _); (case hd => rfl); (case hν' => intro e he; simp only [List.mem_cons, List.not_mem_nil, or_false] at he; rcases he with rfl; exact List.Mem.tail _ (List.Mem.tail _ (List.Mem.head _))); rintro _ G5 _ hle5 ⟨rfl, rfl⟩)) | fail)
      all_goals (first | (apply d_take 5; (case hi => rfl); (case hop => first | (apply PureOp.read; apply p_eq <;> rfl) | fail); (case hf => kernel_rfl); (case hr => kernel_rfl); (case hd => rfl)) | fail)
      all_goals (first | (apply d_take 6; (case hi => rfl); (case hop => first | (apply PureOp.read; apply p_move <;> rfl)); (case hf => kernel_rfl); (case hr => kernel_rfl); (case hd => rfl)) | fail)
      all_goals (try (apply d_guardB 7; (case hi => rfl); (case hgd => rfl); (case h1 => rfl); (case h2 => first | rfl); all_goals (intro h; (try simp only [reduceCtorEq, dec_true, dec_false, decide_eq_true_eq, decide_eq_false_iff_not, Bool.not_eq_true', Bool.not_eq_false', Option.isNone_iff_eq_none, beq_true, beq_false, beq_iff_eq, beq_eq_false_iff_ne, ne_eq, decide_eq_decide, Bool.not_eq_true, Bool.not_eq_false, Decidable.not_not] at h); first | skip)))
      all_goals (first | (apply d_pass 7; (case hi => rfl); (case hg => rfl); (case hn => rfl); (case hf => kernel_rfl); (case hr => kernel_rfl); (case hd => rfl)) | (apply d_takeG 7; (case hi => rfl); (case hg => rfl); (case hop => first | (apply PureOp.read; apply p_move <;> rfl)); (case hf => kernel_rfl); (case hr => kernel_rfl); (case hd => rfl)) | fail)
      all_goals (try (apply d_guardB 8; (case hi => rfl); (case hgd => rfl); (case h1 => rfl); (case h2 => first | rfl); all_goals (intro h; (try simp only [reduceCtorEq, dec_true, dec_false, decide_eq_true_eq, decide_eq_false_iff_not, Bool.not_eq_true', Bool.not_eq_false', Option.isNone_iff_eq_none, beq_true, beq_false, beq_iff_eq, beq_eq_false_iff_ne, ne_eq, decide_eq_decide, Bool.not_eq_true, Bool.not_eq_false, Decidable.not_not] at h); first | done | skip)))
      all_goals (first | (apply d_pass 8; (case hi => rfl); (case hg => rfl); (case hn => rfl); (case hf => kernel_rfl); (case hr => kernel_rfl); (case hd => rfl)) | (apply d_takeG 8; (case hi => rfl); (case hg => rfl); (case hop => first | (apply PureOp.read; apply p_move <;> rfl)); (case hf => kernel_rfl); (case hr => kernel_rfl); (case hd => rfl)) | fail)
      all_goals (try (apply d_guardB 9; (case hi => rfl); (case hgd => rfl); (case h1 => rfl); (case h2 => first | rfl); all_goals (intro h; (try simp only [reduceCtorEq, dec_true, dec_false, decide_eq_true_eq, decide_eq_false_iff_not, Bool.not_eq_true', Bool.not_eq_false', Option.isNone_iff_eq_none, beq_true, beq_false, beq_iff_eq, beq_eq_false_iff_ne, ne_eq, decide_eq_decide, Bool.not_eq_true, Bool.not_eq_false, Decidable.not_not] at h); first | done | skip)))
      all_goals (first | (apply d_pass 9; (case hi => rfl); (case hg => rfl); (case hn => rfl); (case hf => kernel_rfl); (case hr => kernel_rfl); (case hd => rfl)) | (apply d_takeG 9; (case hi => rfl); (case hg => rfl); (case hop => first | (apply PureOp.read; apply p_indexAddrS; (case hx => rfl); (case hi => rfl); (case h0 => omega); (case h => omega); (case hA => first | assumption | fail))); (case hf => kernel_rfl); (case hr => kernel_rfl); (case hd => rfl)) | fail)
      all_goals (try (apply d_guardB 10; (case hi => rfl); (case hgd => rfl); (case h1 => rfl); (case h2 => first | rfl); all_goals (intro h; (try simp only [reduceCtorEq, dec_true, dec_false, decide_eq_true_eq, decide_eq_false_iff_not, Bool.not_eq_true', Bool.not_eq_false', Option.isNone_iff_eq_none, beq_true, beq_false, beq_iff_eq, beq_eq_false_iff_ne, ne_eq, decide_eq_decide, Bool.not_eq_true, Bool.not_eq_false, Decidable.not_not] at h); first | done | skip)))
      all_goals (first | (apply d_pass 10; (case hi => rfl); (case hg => rfl); (case hn => rfl); (case hf => kernel_rfl); (case hr => kernel_rfl); (case hd => rfl)) | (apply d_takeG 10; (case hi => rfl); (case hg => rfl); (case hop => first | (apply PureOp.read; apply p_fieldAddr <;> rfl)); (case hf => kernel_rfl); (case hr => kernel_rfl); (case hd => rfl)) | fail)
      all_goals (try (apply d_guardB 11; (case hi => rfl); (case hgd => rfl); (case h1 => rfl); (case h2 => first | rfl); all_goals (intro h; (try simp only [reduceCtorEq, dec_true, dec_false, decide_eq_true_eq, decide_eq_false_iff_not, Bool.not_eq_true', Bool.not_eq_false', Option.isNone_iff_eq_none, beq_true, beq_false, beq_iff_eq, beq_eq_false_iff_ne, ne_eq, decide_eq_decide, Bool.not_eq_true, Bool.not_eq_false, Decidable.not_not] at h); first | done | skip)))
      all_goals (first | (apply d_pass 11; (case hi => rfl); (case hg => rfl); (case hn => rfl); (case hf => kernel_rfl); (case hr => kernel_rfl); (case hd => rfl)) | (apply d_takeG 11; (case hi => rfl); (case hg => rfl); (case hop => first | ((apply r_load1; rfl; exact Cell.frozen hc5)) | fail); (case hf => kernel_rfl); (case hr => kernel_rfl); (case hd => rfl)) | fail)
      all_goals (try (apply d_guardB 12; (case hi => rfl); (case hgd => rfl); (case h1 => rfl); (case h2 => first | rfl); all_goals (intro h; (try simp only [reduceCtorEq, dec_true, dec_false, decide_eq_true_eq, decide_eq_false_iff_not, Bool.not_eq_true', Bool.not_eq_false', Option.isNone_iff_eq_none, beq_true, beq_false, beq_iff_eq, beq_eq_false_iff_ne, ne_eq, decide_eq_decide, Bool.not_eq_true, Bool.not_eq_false, Decidable.not_not] at h); first | done | skip)))
      all_goals (first | (apply d_pass 12; (case hi => rfl); (case hg => rfl); (case hn => rfl); (case hf => kernel_rfl); (case hr => kernel_rfl); (case hd => rfl)) | (apply d_takeG 12; (case hi => rfl); (case hg => rfl); (case hop => first | (apply PureOp.read; apply p_fieldAddrB <;> rfl) | fail); (case hf => kernel_rfl); (case hr => kernel_rfl); (case hd => rfl)) | fail)
      all_goals (try (apply d_guardB 13; (case hi => rfl); (case hgd => rfl); (case h1 => rfl); (case h2 => first | rfl); all_goals (intro h; (try simp only [reduceCtorEq, dec_true, dec_false, decide_eq_true_eq, decide_eq_false_iff_not, Bool.not_eq_true', Bool.not_eq_false', Option.isNone_iff_eq_none, beq_true, beq_false, beq_iff_eq, beq_eq_false_iff_ne, ne_eq, decide_eq_decide, Bool.not_eq_true, Bool.not_eq_false, Decidable.not_not] at h); first | done | skip)))
      all_goals (first | (apply d_pass 13; (case hi => rfl); (case hg => rfl); (case hn => rfl); (case hf => kernel_rfl); (case hr => kernel_rfl); (case hd => rfl)) | (apply d_takeG 13; (case hi => rfl); (case hg => rfl); (case hop => first | (apply r_load1; rfl; (apply Cell.own; (case h => (repeat (first | exact List.Mem.head _ | fail))); rfl)) | fail); (case hf => kernel_rfl); (case hr => kernel_rfl); (case hd => rfl)) | fail)
      all_goals (try (apply d_guardB 14; (case hi => rfl); (case hgd => rfl); (case h1 => rfl); (case h2 => first | rfl); all_goals (intro h; (try simp only [reduceCtorEq, dec_true, dec_false, decide_eq_true_eq, decide_eq_false_iff_not, Bool.not_eq_true', Bool.not_eq_false', Option.isNone_iff_eq_none, beq_true, beq_false, beq_iff_eq, beq_eq_false_iff_ne, ne_eq, decide_eq_decide, Bool.not_eq_true, Bool.not_eq_false, Decidable.not_not] at h); first | done | skip)))
      all_goals (first | (apply d_pass 14; (case hi => rfl); (case hg => rfl); (case hn => rfl); (case hf => kernel_rfl); (case hr => kernel_rfl); (case hd => rfl)) | (apply d_takeG 14; (case hi => rfl); (case hg => rfl); (case hop => first | (apply PureOp.read; apply p_ne <;> rfl) | fail); (case hf => kernel_rfl); (case hr => kernel_rfl); (case hd => rfl)) | fail)
      all_goals (first | (apply d_take 15; (case hi => rfl); (case hop => first | (apply PureOp.read; apply p_pickT <;> rfl) | (apply PureOp.read; apply p_pickF <;> rfl) | fail); (case hf => kernel_rfl); (case hr => kernel_rfl); (case hd => rfl)) | fail)
      all_goals (apply d_done; (case hr => kernel_rfl))
      repeat' (first | apply v_seq | apply v_region | apply v_nil | apply v_skip | apply v_blk | (apply v_pure; (case hop => first | (apply p_move <;> rfl) | (apply p_assign <;> rfl) | (apply p_add; (case hx => rfl); (case hy => rfl); (case h => omega)) | fail); (case hd => rfl)) | (apply v_condF; (case hc => rfl)) | (apply v_cond; (case hc => rfl); all_goals (intro h; (try simp only [reduceCtorEq, dec_true, dec_false, decide_eq_true_eq, decide_eq_false_iff_not, Bool.not_eq_true', Bool.not_eq_false', Option.isNone_iff_eq_none, beq_true, beq_false, beq_iff_eq, beq_eq_false_iff_ne, ne_eq, decide_eq_decide, Bool.not_eq_true, Bool.not_eq_false, Decidable.not_not] at h); first | skip)) | fail)
      rotate_left
      · exact v_again rfl ⟨GH.le_trans hle hle5, k + 1, s5, _, _, _, _, by omega, rfl, rfl, hs5.up hle5, hp5, hh5⟩ (by simp [headI]; omega)
      · exact v_again rfl ⟨GH.le_trans hle hle5, k + 1, s5, _, _, _, _, by omega, rfl, rfl, hs5.up hle5, hp5, hh5⟩ (by simp [headI]; omega)
      have hxc : xc ≠ cl := by assumption
      have hci0 : ci = 0 := by assumption
      have he9 : e9 = 0 := by omega
      have hck5 := hck2 G5 hle5
      have qap5 := qap G5 hle5
      subst he9
      refine d_start [(b7, .cells [.int .i64 s5.schema, .slice A5 s5.pairs.length c5, .slice A5' s5.sess.length c5'].toArray 25 (0, 0))] (by kernel_rfl) (by kernel_rfl) (by kernel_rfl) (by intro e he; first | (simp at he; simp [he]; done) | fail) ?_
      all_goals (first | (apply d_take 0; (case hi => rfl); (case hop => first | (apply r_loadNo; (case hx => rfl); (case h => (repeat (first | exact List.Mem.head _ | fail))); (case hd => (repeat (first | with_reducible exact dt_nil | apply dt_here | fail))); (case hn => rfl)) | fail); (case hf => kernel_rfl); (case hr => kernel_rfl); (case hd => rfl)) | fail)
      all_goals (first | (apply d_take 1; (case hi => rfl); (case hop => first | (apply PureOp.read; apply p_move <;> rfl)); (case hf => kernel_rfl); (case hr => kernel_rfl); (case hd => rfl)) | fail)
      all_goals (first | (apply d_take 2; (case hi => rfl); (case hop => first | (apply PureOp.read; apply p_move <;> rfl)); (case hf => kernel_rfl); (case hr => kernel_rfl); (case hd => rfl)) | fail)
      all_goals (first | (apply d_take 3; (case hi => rfl); (case hop => first | (apply PureOp.read; apply p_indexAddrS; (case hx => rfl); (case hi => rfl); (case h0 => omega); (case h => omega); (case hA => first | assumption | fail))); (case hf => kernel_rfl); (case hr => kernel_rfl); (case hd => rfl)) | fail)
      all_goals (first | (apply d_take 4; (case hi => rfl); (case hop => first | ((apply r_loadN; rfl; exact CellsAt.frozen hck5; rfl)) | fail); (case hf => kernel_rfl); (case hr => kernel_rfl); (case hd => rfl)) | fail)
      refine d_fork3 5 10 11 (by kernel_rfl) ?fk1a ?fk1b ?fk1c
      case' fk1a =>
        first | (apply x_call 5 (hs := qap5) (μ1 := []); (case hi => rfl);  (case ha => rfl); (case hp => exact List.Perm.refl _); (case hd => rfl); (case hν' => intro e he; simp only [List.mem_cons, List.not_mem_nil, or_false] at he; rcases he with rfl; simp); rintro _ G6 _ hle6 ⟨rfl, v9, rfl, hs9⟩; obtain ⟨A9, c9, A9', c9', rfl, -, -⟩ := id hs9) | fail
        all_goals (first | (apply d_take 6; (case hi => rfl); (case hop => first | (apply PureOp.read; apply p_move <;> rfl)); (case hf => kernel_rfl); (case hr => kernel_rfl); (case hd => rfl)) | fail)
        all_goals (first | (apply d_take 7; (case hi => rfl); (case hop => first | (apply PureOp.read; apply p_extract0 <;> rfl) | fail); (case hf => kernel_rfl); (case hr => kernel_rfl); (case hd => rfl)) | fail)
        all_goals (first | (apply d_take 8; (case hi => rfl); (case hop => first | (apply PureOp.read; apply p_extract1 <;> rfl) | fail); (case hf => kernel_rfl); (case hr => kernel_rfl); (case hd => rfl)) | fail)
        all_goals (first | (apply d_take 9; (case hi => rfl); (case hop => first | (apply PureOp.read; apply p_extract2 <;> rfl) | fail); (case hf => kernel_rfl); (case hr => kernel_rfl); (case hd => rfl)) | fail)
        refine d_fork 10 11 (by kernel_rfl) ?fk2a ?fk2b
        case' fk2a =>
          first | (apply x_exec (d := 11) 10; (case hi => rfl);  (case hop => exact m_alloc rfl); (case hd => rfl); rintro _ G0 _ ⟨b11, rfl, hG0, rfl⟩; subst G0; refine ⟨(by intro e he; simp only [List.mem_cons, List.not_mem_nil, or_false] at he; rcases he with rfl; simp), ?_⟩) | fail
          all_goals (first | ((apply d_exec (d := 12) 11; (case hi => rfl); (case hr => kernel_rfl);  (case hop => exact m_alloc rfl); (case hd => rfl); rintro _ G0 _ ⟨b12, rfl, hG0, rfl⟩; subst G0; refine ⟨(by intro e he; simp only [List.mem_cons, List.not_mem_nil, or_false] at he; rcases he with rfl; simp), ?_⟩)) | fail)
          all_goals (first | (apply d_store 12; (case hi => rfl); (case hr => kernel_rfl); (case hL => infer_instance); (case hp => rfl); (case hx => rfl); (case hc => rfl); (case hsz => rfl); (case h1 => rfl); (case hb => (repeat (first | exact List.Mem.head _ | apply List.Mem.tail | fail))); (case hfit => first | exact Nat.le_of_ble_eq_true rfl | fail); (case hov => (first | ((repeat (first | with_reducible exact ov_nil | apply ov_cons | fail)); done) | fail)); (case hu => repeat (first | exact Upd.here _ _ | apply Upd.there | fail)); (case hν' => intro e he; first | (simp at he; simp [he]; done) | fail)) | fail)
          all_goals (first | (apply d_store 13; (case hi => rfl); (case hr => kernel_rfl); (case hL => infer_instance); (case hp => rfl); (case hx => rfl); (case hc => rfl); (case hsz => rfl); (case h1 => rfl); (case hb => (repeat (first | exact List.Mem.head _ | fail))); (case hfit => first | exact Nat.le_of_ble_eq_true rfl | fail); (case hov => (first | ((repeat (first | with_reducible exact ov_nil | apply ov_cons | fail)); done) | fail)); (case hu => repeat (first | exact Upd.here _ _ | fail)); (case hν' => intro e he; first | (simp at he; simp [he]; done) | fail)) | fail)
          all_goals (first | (apply d_take 14; (case hi => rfl); (case hop => first | (apply PureOp.read; apply p_assign <;> rfl)); (case hf => kernel_rfl); (case hr => kernel_rfl); (case hd => rfl)) | fail)
          all_goals (apply d_done; (case hr => kernel_rfl))
        case' fk2b =>
          first | (apply x_exec (d := 12) 11; (case hi => rfl);  (case hop => exact m_alloc rfl); (case hd => rfl); rintro _ G0 _ ⟨b12, rfl, hG0, rfl⟩; subst G0; refine ⟨(by intro e he; simp only [List.mem_cons, List.not_mem_nil, or_false] at he; rcases he with rfl; simp), ?_⟩) | fail
          all_goals (first | ((apply d_exec (d := 11) 10; (case hi => rfl); (case hr => kernel_rfl);  (case hop => exact m_alloc rfl); (case hd => rfl); rintro _ G0 _ ⟨b11, rfl, hG0, rfl⟩; subst G0; refine ⟨(by intro e he; simp only [List.mem_cons, List.not_mem_nil, or_false] at he; rcases he with rfl; simp), ?_⟩)) | fail)
          all_goals (first | (apply d_store 12; (case hi => rfl); (case hr => kernel_rfl); (case hL => infer_instance); (case hp => rfl); (case hx => rfl); (case hc => rfl); (case hsz => rfl); (case h1 => rfl); (case hb => (repeat (first | exact List.Mem.head _ | fail))); (case hfit => first | exact Nat.le_of_ble_eq_true rfl | fail); (case hov => (first | ((repeat (first | with_reducible exact ov_nil | apply ov_cons | fail)); done) | fail)); (case hu => repeat (first | exact Upd.here _ _ | fail)); (case hν' => intro e he; first | (simp at he; simp [he]; done) | fail)) | fail)
          all_goals (first | (apply d_store 13; (case hi => rfl); (case hr => kernel_rfl); (case hL => infer_instance); (case hp => rfl); (case hx => rfl); (case hc => rfl); (case hsz => rfl); (case h1 => rfl); (case hb => (repeat (first | exact List.Mem.head _ | apply List.Mem.tail | fail))); (case hfit => first | exact Nat.le_of_ble_eq_true rfl | fail); (case hov => (first | ((repeat (first | with_reducible exact ov_nil | apply ov_cons | fail)); done) | fail)); (case hu => repeat (first | exact Upd.here _ _ | apply Upd.there | fail)); (case hν' => intro e he; first | (simp at he; simp [he]; done) | fail)) | fail)
          all_goals (first | (apply d_take 14; (case hi => rfl); (case hop => first | (apply PureOp.read; apply p_assign <;> rfl)); (case hf => kernel_rfl); (case hr => kernel_rfl); (case hd => rfl)) | fail)
          all_goals (apply d_done; (case hr => kernel_rfl))
      case' fk1b =>
        first | (apply x_exec (d := 11) 10; (case hi => rfl);  (case hop => exact m_alloc rfl); (case hd => rfl); rintro _ G0 _ ⟨b11, rfl, hG0, rfl⟩; subst G0; refine ⟨(by intro e he; simp only [List.mem_cons, List.not_mem_nil, or_false] at he; rcases he with rfl; simp), ?_⟩) | fail
        refine d_fork 5 11 (by kernel_rfl) ?fk3a ?fk3b
        case' fk3a =>
          first | (apply x_call 5 (hs := qap5) (μ1 := []); (case hi => rfl);  (case ha => rfl); (case hp => exact List.Perm.refl _); (case hd => rfl); (case hν' => intro e he; simp only [List.mem_cons, List.not_mem_nil, or_false] at he; rcases he with rfl; simp); rintro _ G6 _ hle6 ⟨rfl, v9, rfl, hs9⟩; obtain ⟨A9, c9, A9', c9', rfl, -, -⟩ := id hs9) | fail
          all_goals (first | (apply d_take 6; (case hi => rfl); (case hop => first | (apply PureOp.read; apply p_move <;> rfl)); (case hf => kernel_rfl); (case hr => kernel_rfl); (case hd => rfl)) | fail)
          all_goals (first | (apply d_take 7; (case hi => rfl); (case hop => first | (apply PureOp.read; apply p_extract0 <;> rfl) | fail); (case hf => kernel_rfl); (case hr => kernel_rfl); (case hd => rfl)) | fail)
          all_goals (first | (apply d_take 8; (case hi => rfl); (case hop => first | (apply PureOp.read; apply p_extract1 <;> rfl) | fail); (case hf => kernel_rfl); (case hr => kernel_rfl); (case hd => rfl)) | fail)
          all_goals (first | (apply d_take 9; (case hi => rfl); (case hop => first | (apply PureOp.read; apply p_extract2 <;> rfl) | fail); (case hf => kernel_rfl); (case hr => kernel_rfl); (case hd => rfl)) | fail)
          all_goals (first | ((apply d_exec (d := 12) 11; (case hi => rfl); (case hr => kernel_rfl);  (case hop => exact m_alloc rfl); (case hd => rfl); rintro _ G0 _ ⟨b12, rfl, hG0, rfl⟩; subst G0; refine ⟨(by intro e he; simp only [List.mem_cons, List.not_mem_nil, or_false] at he; rcases he with rfl; simp), ?_⟩)) | fail)
          all_goals (first | (apply d_store 12; (case hi => rfl); (case hr => kernel_rfl); (case hL => infer_instance); (case hp => rfl); (case hx => rfl); (case hc => rfl); (case hsz => rfl); (case h1 => rfl); (case hb => (repeat (first | exact List.Mem.head _ | apply List.Mem.tail | fail))); (case hfit => first | exact Nat.le_of_ble_eq_true rfl | fail); (case hov => (first | ((repeat (first | with_reducible exact ov_nil | apply ov_cons | fail)); done) | fail)); (case hu => repeat (first | exact Upd.here _ _ | apply Upd.there | fail)); (case hν' => intro e he; first | (simp at he; simp [he]; done) | fail)) | fail)
          all_goals (first | (apply d_store 13; (case hi => rfl); (case hr => kernel_rfl); (case hL => infer_instance); (case hp => rfl); (case hx => rfl); (case hc => rfl); (case hsz => rfl); (case h1 => rfl); (case hb => (repeat (first | exact List.Mem.head _ | fail))); (case hfit => first | exact Nat.le_of_ble_eq_true rfl | fail); (case hov => (first | ((repeat (first | with_reducible exact ov_nil | apply ov_cons | fail)); done) | fail)); (case hu => repeat (first | exact Upd.here _ _ | fail)); (case hν' => intro e he; first | (simp at he; simp [he]; done) | fail)) | fail)
          all_goals (first | (apply d_take 14; (case hi => rfl); (case hop => first | (apply PureOp.read; apply p_assign <;> rfl)); (case hf => kernel_rfl); (case hr => kernel_rfl); (case hd => rfl)) | fail)
          all_goals (apply d_done; (case hr => kernel_rfl))
        case' fk3b =>
          first | (apply x_exec (d := 12) 11; (case hi => rfl);  (case hop => exact m_alloc rfl); (case hd => rfl); rintro _ G0 _ ⟨b12, rfl, hG0, rfl⟩; subst G0; refine ⟨(by intro e he; simp only [List.mem_cons, List.not_mem_nil, or_false] at he; rcases he with rfl; simp), ?_⟩) | fail
          all_goals (first | ((apply d_call 5 (hs := qap5) (μ1 := []); (case hi => rfl); (case hr => kernel_rfl);  (case ha => rfl); (case hp => exact List.Perm.refl _); (case hd => rfl); (case hν' => intro e he; simp only [List.mem_cons, List.not_mem_nil, or_false] at he; rcases he with rfl; simp); rintro _ G6 _ hle6 ⟨rfl, v9, rfl, hs9⟩; obtain ⟨A9, c9, A9', c9', rfl, -, -⟩ := id hs9)) | fail)
          all_goals (first | (apply d_take 6; (case hi => rfl); (case hop => first | (apply PureOp.read; apply p_move <;> rfl)); (case hf => kernel_rfl); (case hr => kernel_rfl); (case hd => rfl)) | fail)
          all_goals (first | (apply d_take 7; (case hi => rfl); (case hop => first | (apply PureOp.read; apply p_extract0 <;> rfl) | fail); (case hf => kernel_rfl); (case hr => kernel_rfl); (case hd => rfl)) | fail)
          all_goals (first | (apply d_take 8; (case hi => rfl); (case hop => first | (apply PureOp.read; apply p_extract1 <;> rfl) | fail); (case hf => kernel_rfl); (case hr => kernel_rfl); (case hd => rfl)) | fail)
          all_goals (first | (apply d_take 9; (case hi => rfl); (case hop => first | (apply PureOp.read; apply p_extract2 <;> rfl) | fail); (case hf => kernel_rfl); (case hr => kernel_rfl); (case hd => rfl)) | fail)
          all_goals (first | (apply d_store 12; (case hi => rfl); (case hr => kernel_rfl); (case hL => infer_instance); (case hp => rfl); (case hx => rfl); (case hc => rfl); (case hsz => rfl); (case h1 => rfl); (case hb => (repeat (first | exact List.Mem.head _ | apply List.Mem.tail | fail))); (case hfit => first | exact Nat.le_of_ble_eq_true rfl | fail); (case hov => (first | ((repeat (first | with_reducible exact ov_nil | apply ov_cons | fail)); done) | fail)); (case hu => repeat (first | exact Upd.here _ _ | apply Upd.there | fail)); (case hν' => intro e he; first | (simp at he; simp [he]; done) | fail)) | fail)
          all_goals (first | (apply d_store 13; (case hi => rfl); (case hr => kernel_rfl); (case hL => infer_instance); (case hp => rfl); (case hx => rfl); (case hc => rfl); (case hsz => rfl); (case h1 => rfl); (case hb => (repeat (first | exact List.Mem.head _ | fail))); (case hfit => first | exact Nat.le_of_ble_eq_true rfl | fail); (case hov => (first | ((repeat (first | with_reducible exact ov_nil | apply ov_cons | fail)); done) | fail)); (case hu => repeat (first | exact Upd.here _ _ | fail)); (case hν' => intro e he; first | (simp at he; simp [he]; done) | fail)) | fail)
          all_goals (first | (apply d_take 14; (case hi => rfl); (case hop => first | (apply PureOp.read; apply p_assign <;> rfl)); (case hf => kernel_rfl); (case hr => kernel_rfl); (case hd => rfl)) | fail)
          all_goals (apply d_done; (case hr => kernel_rfl))
      case' fk1c =>
        first | (apply x_exec (d := 12) 11; (case hi => rfl);  (case hop => exact m_alloc rfl); (case hd => rfl); rintro _ G0 _ ⟨b12, rfl, hG0, rfl⟩; subst G0; refine ⟨(by intro e he; simp only [List.mem_cons, List.not_mem_nil, or_false] at he; rcases he with rfl; simp), ?_⟩) | fail
        refine d_fork 5 10 (by kernel_rfl) ?fk4a ?fk4b
        case' fk4a =>
          first | (apply x_call 5 (hs := qap5) (μ1 := []); (case hi => rfl);  (case ha => rfl); (case hp => exact List.Perm.refl _); (case hd => rfl); (case hν' => intro e he; simp only [List.mem_cons, List.not_mem_nil, or_false] at he; rcases he with rfl; simp); rintro _ G6 _ hle6 ⟨rfl, v9, rfl, hs9⟩; obtain ⟨A9, c9, A9', c9', rfl, -, -⟩ := id hs9) | fail
          all_goals (first | (apply d_take 6; (case hi => rfl); (case hop => first | (apply PureOp.read; apply p_move <;> rfl)); (case hf => kernel_rfl); (case hr => kernel_rfl); (case hd => rfl)) | fail)
          all_goals (first | (apply d_take 7; (case hi => rfl); (case hop => first | (apply PureOp.read; apply p_extract0 <;> rfl) | fail); (case hf => kernel_rfl); (case hr => kernel_rfl); (case hd => rfl)) | fail)
          all_goals (first | (apply d_take 8; (case hi => rfl); (case hop => first | (apply PureOp.read; apply p_extract1 <;> rfl) | fail); (case hf => kernel_rfl); (case hr => kernel_rfl); (case hd => rfl)) | fail)
          all_goals (first | (apply d_take 9; (case hi => rfl); (case hop => first | (apply PureOp.read; apply p_extract2 <;> rfl) | fail); (case hf => kernel_rfl); (case hr => kernel_rfl); (case hd => rfl)) | fail)
          all_goals (first | ((apply d_exec (d := 11) 10; (case hi => rfl); (case hr => kernel_rfl);  (case hop => exact m_alloc rfl); (case hd => rfl); rintro _ G0 _ ⟨b11, rfl, hG0, rfl⟩; subst G0; refine ⟨(by intro e he; simp only [List.mem_cons, List.not_mem_nil, or_false] at he; rcases he with rfl; simp), ?_⟩)) | fail)
          all_goals (first | (apply d_store 12; (case hi => rfl); (case hr => kernel_rfl); (case hL => infer_instance); (case hp => rfl); (case hx => rfl); (case hc => rfl); (case hsz => rfl); (case h1 => rfl); (case hb => (repeat (first | exact List.Mem.head _ | fail))); (case hfit => first | exact Nat.le_of_ble_eq_true rfl | fail); (case hov => (first | ((repeat (first | with_reducible exact ov_nil | apply ov_cons | fail)); done) | fail)); (case hu => repeat (first | exact Upd.here _ _ | fail)); (case hν' => intro e he; first | (simp at he; simp [he]; done) | fail)) | fail)
          all_goals (first | (apply d_store 13; (case hi => rfl); (case hr => kernel_rfl); (case hL => infer_instance); (case hp => rfl); (case hx => rfl); (case hc => rfl); (case hsz => rfl); (case h1 => rfl); (case hb => (repeat (first | exact List.Mem.head _ | apply List.Mem.tail | fail))); (case hfit => first | exact Nat.le_of_ble_eq_true rfl | fail); (case hov => (first | ((repeat (first | with_reducible exact ov_nil | apply ov_cons | fail)); done) | fail)); (case hu => repeat (first | exact Upd.here _ _ | apply Upd.there | fail)); (case hν' => intro e he; first | (simp at he; simp [he]; done) | fail)) | fail)
          all_goals (first | (apply d_take 14; (case hi => rfl); (case hop => first | (apply PureOp.read; apply p_assign <;> rfl)); (case hf => kernel_rfl); (case hr => kernel_rfl); (case hd => rfl)) | fail)
          all_goals (apply d_done; (case hr => kernel_rfl))
        case' fk4b =>
          first | (apply x_exec (d := 11) 10; (case hi => rfl);  (case hop => exact m_alloc rfl); (case hd => rfl); rintro _ G0 _ ⟨b11, rfl, hG0, rfl⟩; subst G0; refine ⟨(by intro e he; simp only [List.mem_cons, List.not_mem_nil, or_false] at he; rcases he with rfl; simp), ?_⟩) | fail
          all_goals (first | ((apply d_call 5 (hs := qap5) (μ1 := []); (case hi => rfl); (case hr => kernel_rfl);  (case ha => rfl); (case hp => exact List.Perm.refl _); (case hd => rfl); (case hν' => intro e he; simp only [List.mem_cons, List.not_mem_nil, or_false] at he; rcases he with rfl; simp); rintro _ G6 _ hle6 ⟨rfl, v9, rfl, hs9⟩; obtain ⟨A9, c9, A9', c9', rfl, -, -⟩ := id hs9)) | fail)
          all_goals (first | (apply d_take 6; (case hi => rfl); (case hop => first | (apply PureOp.read; apply p_move <;> rfl)); (case hf => kernel_rfl); (case hr => kernel_rfl); (case hd => rfl)) | fail)
          all_goals (first | (apply d_take 7; (case hi => rfl); (case hop => first | (apply PureOp.read; apply p_extract0 <;> rfl) | fail); (case hf => kernel_rfl); (case hr => kernel_rfl); (case hd => rfl)) | fail)
          all_goals (first | (apply d_take 8; (case hi => rfl); (case hop => first | (apply PureOp.read; apply p_extract1 <;> rfl) | fail); (case hf => kernel_rfl); (case hr => kernel_rfl); (case hd => rfl)) | fail)
          all_goals (first | (apply d_take 9; (case hi => rfl); (case hop => first | (apply PureOp.read; apply p_extract2 <;> rfl) | fail); (case hf => kernel_rfl); (case hr => kernel_rfl); (case hd => rfl)) | fail)
          all_goals (first | (apply d_store 12; (case hi => rfl); (case hr => kernel_rfl); (case hL => infer_instance); (case hp => rfl); (case hx => rfl); (case hc => rfl); (case hsz => rfl); (case h1 => rfl); (case hb => (repeat (first | exact List.Mem.head _ | fail))); (case hfit => first | exact Nat.le_of_ble_eq_true rfl | fail); (case hov => (first | ((repeat (first | with_reducible exact ov_nil | apply ov_cons | fail)); done) | fail)); (case hu => repeat (first | exact Upd.here _ _ | fail)); (case hν' => intro e he; first | (simp at he; simp [he]; done) | fail)) | fail)
          all_goals (first | (apply d_store 13; (case hi => rfl); (case hr => kernel_rfl); (case hL => infer_instance); (case hp => rfl); (case hx => rfl); (case hc => rfl); (case hsz => rfl); (case h1 => rfl); (case hb => (repeat (first | exact List.Mem.head _ | apply List.Mem.tail | fail))); (case hfit => first | exact Nat.le_of_ble_eq_true rfl | fail); (case hov => (first | ((repeat (first | with_reducible exact ov_nil | apply ov_cons | fail)); done) | fail)); (case hu => repeat (first | exact Upd.here _ _ | apply Upd.there | fail)); (case hν' => intro e he; first | (simp at he; simp [he]; done) | fail)) | fail)
          all_goals (first | (apply d_take 14; (case hi => rfl); (case hop => first | (apply PureOp.read; apply p_assign <;> rfl)); (case hf => kernel_rfl); (case hr => kernel_rfl); (case hd => rfl)) | fail)
          all_goals (apply d_done; (case hr => kernel_rfl))
      all_goals refine v_perm (ν := [(b12, .cells [.int .i64 dc, .int .i64 dq, .int .i64 de, .bool df, .string dv, .int .i64 dr].toArray 42 (0, 0)), (b11, .cells [.int .i64 s9.schema, .slice A9 s9.pairs.length c9, .slice A9' s9.sess.length c9'].toArray 25 (0, 0)), (b8, .cells [.int .i64 ac, .int .i64 aq, .int .i64 ae, .bool af, .string av, .int .i64 ar].toArray 42 (0, 0)), (b7, .cells [.int .i64 s5.schema, .slice A5 s5.pairs.length c5, .slice A5' s5.sess.length c5'].toArray 25 (0, 0)), (b4, .cells (Cm.cells ⟨kind, cl, seq, key, val, old, node⟩).toArray 38 (0, 0)), (b3, .cells [.int .i64 s.schema, .slice A s.pairs.length c0, .slice A' s.sess.length c'].toArray 25 (0, 0))]) (by first | exact List.Perm.refl _ | exact List.Perm.swap _ _ _) ?_
      all_goals
        repeat' (first | (apply v_read; (case hop => (apply r_loadNo; (case hx => rfl); (case h => repeat (first | exact List.Mem.head _ | apply List.Mem.tail | fail)); (case hd => rfl); (case hn => rfl))); (case hd => rfl)) | apply v_seq | apply v_region | apply v_nil | apply v_skip | apply v_blk | (apply v_pure; (case hop => first | (apply p_move <;> rfl) | (apply p_nes <;> rfl) | (apply p_assign <;> rfl) | (apply p_add; (case hx => rfl); (case hy => rfl); (case h => omega)) | fail); (case hd => rfl)) | (apply v_condF; (case hc => rfl)) | (apply v_store; (case hp => rfl); (case hx => rfl); (case hc => rfl); (case hsz => rfl); (case h1 => rfl); (case hb => (repeat (first | exact List.Mem.head _ | apply List.Mem.tail | fail))); (case hfit => first | exact Nat.le_of_ble_eq_true rfl | fail); (case hov => (first | rfl)); (case hu => repeat (first | exact Upd.here _ _ | apply Upd.there | fail))) | fail)
      all_goals refine v_drop (ν := [(b8, .cells [.int .i64 ac, .int .i64 aq, .int .i64 ae, .bool af, .string av, .int .i64 ar].toArray 42 (0, 0)), (b7, .cells [.int .i64 s9.schema, .slice A9 s9.pairs.length c9, .slice A9' s9.sess.length c9'].toArray 25 (0, 0)), (b4, .cells (Cm.cells ⟨kind, cl, seq, key, val, old, node⟩).toArray 38 (0, 0)), (b3, .cells [.int .i64 s.schema, .slice A s.pairs.length c0, .slice A' s.sess.length c'].toArray 25 (0, 0))]) (List.Sublist.cons _ (List.Sublist.cons _ (List.Sublist.refl _))) ?_
      all_goals exact v_again rfl ⟨GH.le_trans hle (GH.le_trans hle5 hle6), k + 1, s9, _, _, _, _, by omega, rfl, rfl, hs9, (haok rfl).1, hkeep hci0 hxc⟩ (by simp [headI]; omega)
    · obtain rfl : k = l.length := by omega
      have hag := once4 s5 ⟨ac, aq, ae, af, av, ar⟩ hp5 hh5 hci ho
      have hal5 := hal G' (hT.up h1') s5 _ hs5 hp5 hcw
      rw [hag] at hal5
      simp only at hal5
      repeat' (first | (apply v_read; (case hop => (apply r_loadNo; (case hx => rfl); (case h => repeat (first | exact List.Mem.head _ | apply List.Mem.tail | fail)); (case hd => rfl); (case hn => rfl))); (case hd => rfl)) | apply v_seq | apply v_region | apply v_nil | (apply v_exit; (case hp => rfl)) | (apply v_pure; (case hop => first | (apply p_move <;> rfl) | (apply p_lt <;> rfl) | (apply p_lenSlice <;> rfl) | fail); (case hd => rfl)) | (apply v_cond; (case hc => rfl); all_goals (intro h; (try simp only [reduceCtorEq, dec_true, dec_false, decide_eq_true_eq, decide_eq_false_iff_not, Bool.not_eq_true', Bool.not_eq_false', Option.isNone_iff_eq_none, beq_true, beq_false, beq_iff_eq, beq_eq_false_iff_ne, ne_eq, decide_eq_decide, Bool.not_eq_true, Bool.not_eq_false, Decidable.not_not] at h); first | (exfalso; omega) | skip)) | fail)
      refine v_call (μ1 := []) rfl hal5 (List.Perm.refl _) rfl ?_
      rintro _ G6 _ hle6 ⟨rfl, v6, rfl, hs6⟩
      obtain ⟨A6, c6, A6', c6', rfl, -, -⟩ := id hs6
      obtain ⟨q, hq, hq1⟩ := an_feqD 9998 ⟨ac, aq, ae, af, av, ar⟩ ⟨ac, aq, ae, af, av, ar⟩
      obtain rfl := hq1 rfl
      have hop := fun σ ty t' a b hx hy => p_eqStruct (P := Tryz.prog) (σ := σ) (ty := ty) (t := 42) (t' := t') (x := a) (y := b) hx hy hq
      repeat' (first | (apply v_alloc (d := 14); (case hz => rfl); (case hd => rfl); intro b14) | (apply v_alloc (d := 15); (case hz => rfl); (case hd => rfl); intro b15) | (apply v_read; (case hop => (apply r_loadNo; (case hx => rfl); (case h => repeat (first | exact List.Mem.head _ | apply List.Mem.tail | fail)); (case hd => rfl); (case hn => rfl))); (case hd => rfl)) | (apply v_pure; (case hop => apply hop; (case hx => rfl); (case hy => rfl)); (case hd => rfl)) | apply v_seq | apply v_region | apply v_nil | (apply v_take; (case hg => rfl)) | (apply v_pure; (case hop => first | (apply p_move <;> rfl) | (apply p_eqs <;> rfl) | (apply p_assign <;> rfl) | (apply p_pickT <;> rfl) | (apply p_extract0 <;> rfl) | (apply p_extract1 <;> rfl) | (apply p_extract2 <;> rfl) | fail); (case hd => rfl)) | (apply v_store; (case hp => rfl); (case hx => rfl); (case hc => rfl); (case hsz => rfl); (case h1 => rfl); (case hb => (repeat (first | exact List.Mem.head _ | apply List.Mem.tail | fail))); (case hfit => first | exact Nat.le_of_ble_eq_true rfl | fail); (case hov => (first | ((repeat (first | with_reducible exact ov_nil | apply ov_cons | fail)); done) | fail)); (case hu => repeat (first | exact Upd.here _ _ | apply Upd.there | fail))) | fail)
      refine v_call (μ1 := []) rfl (refSame_s hs6 (hs5.up hle6)) (List.Perm.refl _) rfl ?_
      rintro _ G7 _ - ⟨hG7, rfl, x7, rfl, h7⟩
      subst G7
      obtain rfl := h7 rfl
      repeat' (first | (apply v_take; (case hg => rfl)) | (apply v_pure; (case hop => first | (apply p_move <;> rfl) | (apply p_pickT <;> rfl) | fail); (case hd => rfl)) | fail)
      refine v_call (μ1 := []) rfl (qa _ (GH.le_trans h1' hle6)) (List.Perm.refl _) rfl ?_
      rintro _ G99 _ - ⟨rfl, rfl⟩
      repeat' (first | apply v_nil | (apply v_pure; (case hop => first | (apply p_assign <;> rfl) | (apply p_pickT <;> rfl) | fail); (case hd => rfl)) | fail)
      refine v_ret [] (outsA1 rfl rfl) (by repeat (first | exact List.nil_sublist _ | fail)) ?_
      rfl
  all_goals cases x6
  all_goals first | (have hk6 := hk5 rfl) | skip
  all_goals
    repeat' (first | (apply v_take; (case hg => rfl)) | (apply v_pass; (case hg => rfl); (case hn => rfl); (case hd => rfl)) | (apply v_pure; (case hop => first | (apply p_move <;> rfl) | (apply p_eq <;> rfl) | (apply p_pickT <;> rfl) | (apply p_pickF <;> rfl) | (apply p_fieldAddrB <;> rfl) | fail); (case hd => rfl)) | (apply v_guardB; (case h1 => rfl); (case h2 => rfl); all_goals (intro h; (try simp only [reduceCtorEq, dec_true, dec_false, decide_eq_true_eq, decide_eq_false_iff_not, Bool.not_eq_true', Bool.not_eq_false', Option.isNone_iff_eq_none, beq_true, beq_false, beq_iff_eq, beq_eq_false_iff_ne, ne_eq, decide_eq_decide, Bool.not_eq_true, Bool.not_eq_false, Decidable.not_not] at h); first | (exfalso; omega) | skip)) | (apply v_read; (case hop => first | (apply r_load1; rfl; (apply Cell.own; (case h => (repeat (first | exact List.Mem.head _ | apply List.Mem.tail | fail))); rfl)) | fail); (case hd => rfl)) | fail)
  all_goals
    (refine v_call (μ1 := []) rfl (qa _ h13) (List.Perm.refl _) rfl ?_
     rintro _ G99 _ - ⟨rfl, rfl⟩)
  all_goals
    repeat' (first | apply v_nil | (apply v_pure; (case hop => first | (apply p_assign <;> rfl) | (apply p_pickT <;> rfl) | fail); (case hd => rfl)) | fail)
  all_goals
    (refine v_ret [] (outsA1 rfl rfl) (by repeat (first | exact List.nil_sublist _ | fail)) ?_
     rfl)
end Go.Proofs.YtgflmkhfachlcaaGreatDoor
/-
  AppOnce: the tied card.
-/
set_option linter.unusedSimpArgs false
set_option linter.unusedVariables false
namespace Go.Proofs.YtgflmkhfachlcaaGreatDoor
open Go.Vx Go.ChangeShapes Go.WideShapes Go.ChangeAt Go.RowKit
theorem appOnce_own : ownKnob Tryz.prog.godebug = none := by kernel_rfl
theorem appOnce_laidOut : laidOutB Tryz.prog = true := by kernel_rfl
theorem appOnce_spec : LawSpec Rows.appOnceSpec 3 := ⟨rfl, fun H ds h => by match ds, h with | [d0, d1, d2], _ => rfl⟩
set_option maxRecDepth 100000 in
theorem appOnce_lifted (os : Os) (started : os.Started) (H : Type) (enc : TypeId × Value → H) :
    ReturnsInHanded {} Tryz.checked os 4 .any (fun w args => (Rows.appOnceSpec.pre enc Tryz.prog Tryz.f4 Rows.appOnceRow.domain false w args ∧ laidMetH Tryz.prog tabsLaid w) ∧ sizedMet enc Tryz.prog Tryz.f4 (OpenSpec.ofChange Rows.appOnceSpec) false w args)
      (Rows.appOnceSpec.post enc Tryz.prog Tryz.f4 false true false false) := by
  refine returnsInHanded_of_change_and (C := Tryz.checked) (X := fun w _ => laidMetH Tryz.prog tabsLaid w) (fun _ _ _ hh h => h.of_heap hh) appOnce_own started (by kernel_rfl) Tryz.func4
    (ChangeSpec.witness_shaped (enc := enc) (C := Tryz.checked) (os := os) (X := fun w _ => laidMetH Tryz.prog tabsLaid w) false (World.laidAll Tryz.prog os tabsLaid) #[.agg #[.int .i64 0, .slice none 0 0, .slice none 0 0], .agg #[.int .i64 0, .int .i64 0, .int .i64 0, .string ByteArray.empty, .string ByteArray.empty, .string ByteArray.empty, .int .i64 0], .slice none 0 0] 8 (World.laidAll_os _ _ _)
      (World.shaped_of_ZipB (by kernel_rfl) (by kernel_rfl)) (by kernel_rfl) (by kernel_rfl) (by kernel_rfl)
      (by rw [MakeChecks.laidMetH_plain _ _ _ tabs_plain]; exact laidMet_laidAll _ (by kernel_rfl) (by kernel_rfl))) ?_
  intro W base args ds gs before hval0 hW hcnd _ hL _
  have hval : ∀ (j : Nat) t v, Tryz.f4.params[j]? = some t → args[j]? = some v → Value.okWide Tryz.prog W .any base t v := hval0
  refine law_post appOnce_laidOut Tryz.underlying4 rfl appOnce_spec rfl (by kernel_rfl) hW ?_
  obtain ⟨p, q, hA0, hV, rfl, hfz, hnd⟩ := hW
  have hA : DataW.TrodAll enc Tryz.prog W 0 (fun _ => true) true Tryz.f4.params.toList args.toList ds p := hA0
  rw [Tryz.params4] at hA hval
  obtain ⟨v0, vs0, d0, ds0, p0, q0, hargs, rfl, rfl, h0, r0⟩ := trodAll_cons hA
  obtain ⟨v1, vs1, d1, ds1, p1, q1, rfl, rfl, rfl, h1, r1⟩ := trodAll_cons r0
  obtain ⟨v2, vs2, d2, ds2, p2, q2, rfl, rfl, rfl, h2, r2⟩ := trodAll_cons r1
  obtain ⟨rfl, rfl, rfl⟩ := trodAll_nil r2
  obtain rfl : args = #[v0, v1, v2] := by cases args; simp_all
  have g0 := arg_t25 (hval 0 25 v0 rfl rfl) h0
  have g1 := arg_t38 (hval 1 38 v1 rfl rfl) h1
  have g2 := arg_t26 (hval 2 26 v2 rfl rfl) h2
  exact appOnce_law (tabs_of_laid hL) g0 g1 g2
theorem appOnce_over : Rows.appOnceRow.holds Tryz.pinned (OpenSpec.ofChange Rows.appOnceSpec) :=
  OpenClaim.holds_of_wide 4 Tryz.f4 rfl rfl rfl rfl rfl rfl rfl ⟨rfl, rfl, rfl, rfl, rfl⟩ rfl rfl rfl rfl rfl (by kernel_rfl) Tryz.func4 (by kernel_rfl)
    (of_decide_eq_true (by kernel_rfl)) (by unfold Func.isWrapper; first | (rw [if_pos (by decide +kernel)]; kernel_rfl) | (rw [if_neg (by decide +kernel)]; exact ⟨rfl, rfl⟩))
    (fun os started H enc _ => appOnce_lifted os started H enc)
theorem appOnce_holds : Rows.AppOnceSaid := appOnce_over
theorem appOnceCard_holds : Rows.AppOnceCardSaid :=
  Claim7.holds_tied_plain_at .later [] [.data, .pinned] true (true, "2f5db0dcbc29208b188700c6b2c1284a2f7749a46ed37062090280d6de48292d") true appOnce_holds (fun _ h => by cases h) (by kernel_rfl) (fun _ h => by cases h) appOnce_row_tie rfl ⟨rfl, rfl⟩ (by kernel_rfl) rfl
    (fun f fn hf hfn => by
      obtain rfl : f = 4 := Option.some.inj ((show Tryz.prog.funcNamed Rows.appOnceRow.func = some 4 by kernel_rfl).symm.trans hf) |>.symm
      obtain rfl : fn = Tryz.f4 := (Option.some.inj (Tryz.func4.symm.trans hfn)).symm
      exact ⟨by kernel_rfl, fun j t ht => by
        rw [Tryz.params4] at ht
        have hm : t ∈ [25, 38, 26] := by simpa using Array.mem_of_getElem? ht
        have hall : ([25, 38, 26].all fun u => !Tryz.prog.wantsStandIn u) = true := by kernel_rfl
        exact (show Tryz.prog.wantsStandIn t = false by simpa using List.all_eq_true.1 hall t hm)⟩)
    (by kernel_rfl)

end Go.Proofs.YtgflmkhfachlcaaGreatDoor
