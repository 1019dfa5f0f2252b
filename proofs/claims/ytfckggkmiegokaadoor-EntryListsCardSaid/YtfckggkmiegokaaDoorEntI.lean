/-
  entry (layer 12), the ninth part: what lies from an index on, and until it.
-/
import Derived.Test.YtfckggkmiegokaaDoorEntH
set_option linter.unusedSimpArgs false
set_option linter.unusedVariables false
namespace Go.Proofs.YtfckggkmiegokaaDoor
open Go.Vx Go.ChangeShapes Go.WideShapes Go.ChangeAt Go.RowKit
theorem es_drop {G : GH} {A : Option Addr} {c p : Nat} {l : List Ent} (hs : Es G (.slice A l.length c) l) (hp : p ≤ l.length) : Es G (.slice (if c = p then A else A.map (·.add (p * 10))) (l.length - p) (c - p)) (l.drop p) := by
  obtain ⟨A', c', he, h1, h2, h3⟩ := hs
  cases he
  refine ⟨_, _, by rw [List.length_drop], by rw [List.length_drop]; omega, by omega, fun h0 => ?_⟩
  rw [List.length_drop] at h0
  obtain ⟨a, rfl, h4⟩ := h3 (by omega)
  refine ⟨a.add (p * 10), by rw [if_neg (by omega)]; rfl, fun i x hx => ?_⟩
  rw [List.getElem?_drop] at hx
  obtain ⟨cs, q1, q2, q3⟩ := h4 (p + i) x hx
  refine ⟨cs, q1, q2, ?_⟩
  rw [adr_add, ← Nat.add_mul]
  exact q3
theorem es_take {G : GH} {A : Option Addr} {c p : Nat} {l : List Ent} (hs : Es G (.slice A l.length c) l) (hp : p ≤ l.length) : Es G (.slice A p c) (l.take p) := by
  obtain ⟨A', c', he, h1, h2, h3⟩ := hs
  cases he
  have hl : (l.take p).length = p := by rw [List.length_take]; omega
  refine ⟨_, _, by rw [hl], by omega, h2, fun h0 => ?_⟩
  rw [hl] at h0
  obtain ⟨a, rfl, h4⟩ := h3 (by omega)
  refine ⟨a, rfl, fun i x hx => h4 i x ?_⟩
  rw [List.getElem?_take] at hx
  split at hx
  · exact hx
  · cases hx
/-- A run of entries, of ours. -/
def Mine (l : List Ent) (G : GH) (r : Value) (G' : GH) (μ' : OH) : Prop := G' = G ∧ Grow 36 10 r l.length (esC l) μ'
theorem from_s {G : GH} {l : List Ent} {sv : Value} (n : Int) (hs : Es G sv l) (hr : RiseL l) (hn : l.length ≤ 40) : Con Tryd.prog 21 #[sv, .int .i64 n] G [] (Mine (l.drop (placeN l n)) G) := by
  have qp := place_s n hs hr
  have hp := placeN_le l n
  obtain ⟨A, c, rfl, hlc, hcm, -⟩ := esOpen hs
  simp only [maxLen] at hcm
  have qc := entClone_s (es_drop hs hp) (by rw [List.length_drop]; omega)
  refine v_enter Tryd.func21 rfl Tryd.ntmps21 rfl (fun B => ?_)
  repeat' (first | apply v_seq | apply v_region | apply v_nil | apply v_skip | apply v_block | apply v_blk | (apply v_exit; (case hp => rfl)) | (apply v_take; (case hg => rfl)) | (apply v_pass; (case hg => rfl); (case hn => rfl); (case hd => rfl)) | (apply v_passN; (case hg => rfl); (case hn => rfl); (case hd => rfl)) | (apply v_pure; (case hop => first | (apply p_move <;> rfl) | (apply p_assign <;> rfl) | (apply p_extract0 <;> rfl) | (apply p_extract1 <;> rfl) | (apply p_extract2 <;> rfl) | (apply p_extract <;> rfl) | (apply p_sliceL; (case hx => rfl); (case hl => rfl); all_goals omega) | (apply p_sliceH; (case hx => rfl); (case hh => rfl); all_goals omega) | (apply p_sliceLH; (case hx => rfl); (case hl => rfl); (case hh => rfl); all_goals omega) | (apply p_slice3; (case hx => rfl); (case hh => rfl); (case hq => rfl); all_goals omega) | (apply p_sliceStrL; (case hx => rfl); (case hl => rfl); all_goals omega) | (apply p_sliceStrH; (case hx => rfl); (case hh => rfl); all_goals omega)); (case hd => rfl)) | (apply v_condT; (case hc => rfl)) | (apply v_condF; (case hc => rfl)) | (apply v_cond; (case hc => rfl); all_goals (intro h; (try simp only [reduceCtorEq, dec_true, dec_false, decide_eq_true_eq, decide_eq_false_iff_not, Bool.not_eq_true', Bool.not_eq_false', Option.isNone_iff_eq_none, beq_true, beq_false, beq_iff_eq, beq_eq_false_iff_ne, ne_eq, decide_eq_decide, Bool.not_eq_true, Bool.not_eq_false, Decidable.not_not] at h); first | done | (exfalso; omega) | (exfalso; exact h (by with_reducible assumption)) | (exfalso; revert h; rw [imp_false]; with_reducible assumption) | skip)) | (apply v_guardB; (case h1 => rfl); (case h2 => rfl); all_goals (intro h; (try simp only [reduceCtorEq, dec_true, dec_false, decide_eq_true_eq, decide_eq_false_iff_not, Bool.not_eq_true', Bool.not_eq_false', Option.isNone_iff_eq_none, beq_true, beq_false, beq_iff_eq, beq_eq_false_iff_ne, ne_eq, decide_eq_decide, Bool.not_eq_true, Bool.not_eq_false, Decidable.not_not] at h); first | done | (exfalso; omega) | (exfalso; exact h (by with_reducible assumption)) | (exfalso; revert h; rw [imp_false]; with_reducible assumption) | skip)) | (apply v_callJ (hs := qp); (case ha => rfl); (case hd => rfl)) | fail)
  refine v_call (μ1 := []) (μ2 := _) rfl qc (List.Perm.refl _) rfl ?_
  rintro r G' μ1 _ ⟨rfl, hg⟩
  repeat' (first | apply v_seq | apply v_region | apply v_nil | apply v_skip | apply v_block | apply v_blk | (apply v_exit; (case hp => rfl)) | (apply v_take; (case hg => rfl)) | (apply v_pass; (case hg => rfl); (case hn => rfl); (case hd => rfl)) | (apply v_passN; (case hg => rfl); (case hn => rfl); (case hd => rfl)) | (apply v_pure; (case hop => first | (apply p_move <;> rfl) | (apply p_assign <;> rfl) | (apply p_extract0 <;> rfl) | (apply p_extract1 <;> rfl) | (apply p_extract2 <;> rfl) | (apply p_extract <;> rfl) | (apply p_sliceL; (case hx => rfl); (case hl => rfl); all_goals omega) | (apply p_sliceH; (case hx => rfl); (case hh => rfl); all_goals omega) | (apply p_sliceLH; (case hx => rfl); (case hl => rfl); (case hh => rfl); all_goals omega) | (apply p_slice3; (case hx => rfl); (case hh => rfl); (case hq => rfl); all_goals omega) | (apply p_sliceStrL; (case hx => rfl); (case hl => rfl); all_goals omega) | (apply p_sliceStrH; (case hx => rfl); (case hh => rfl); all_goals omega)); (case hd => rfl)) | (apply v_condT; (case hc => rfl)) | (apply v_condF; (case hc => rfl)) | (apply v_cond; (case hc => rfl); all_goals (intro h; (try simp only [reduceCtorEq, dec_true, dec_false, decide_eq_true_eq, decide_eq_false_iff_not, Bool.not_eq_true', Bool.not_eq_false', Option.isNone_iff_eq_none, beq_true, beq_false, beq_iff_eq, beq_eq_false_iff_ne, ne_eq, decide_eq_decide, Bool.not_eq_true, Bool.not_eq_false, Decidable.not_not] at h); first | done | (exfalso; omega) | (exfalso; exact h (by with_reducible assumption)) | (exfalso; revert h; rw [imp_false]; with_reducible assumption) | skip)) | (apply v_guardB; (case h1 => rfl); (case h2 => rfl); all_goals (intro h; (try simp only [reduceCtorEq, dec_true, dec_false, decide_eq_true_eq, decide_eq_false_iff_not, Bool.not_eq_true', Bool.not_eq_false', Option.isNone_iff_eq_none, beq_true, beq_false, beq_iff_eq, beq_eq_false_iff_ne, ne_eq, decide_eq_decide, Bool.not_eq_true, Bool.not_eq_false, Decidable.not_not] at h); first | done | (exfalso; omega) | (exfalso; exact h (by with_reducible assumption)) | (exfalso; revert h; rw [imp_false]; with_reducible assumption) | skip)) | fail)
  refine v_ret _ (outsA1 rfl rfl) (by repeat (first | exact List.Sublist.refl _ | exact List.nil_sublist _ | apply List.Sublist.cons_cons | apply List.Sublist.cons | exact List.sublist_append_left _ _ | apply List.sublist_append_of_sublist_right)) ?_
  exact ⟨rfl, by simpa using hg⟩
theorem until_s {G : GH} {l : List Ent} {sv : Value} (n : Int) (hs : Es G sv l) (hr : RiseL l) (hn : l.length ≤ 40) : Con Tryd.prog 23 #[sv, .int .i64 n] G [] (Mine (l.take (if hitB l n = true then placeN l n + 1 else placeN l n)) G) := by
  have qp := place_s n hs hr
  have hp := placeN_le l n
  obtain ⟨A, c, rfl, hlc, hcm, -⟩ := esOpen hs
  simp only [maxLen] at hcm
  cases hh : hitB l n
  · rw [hh] at qp
    have qc := entClone_s (es_take hs hp) (by rw [List.length_take]; omega)
    refine v_enter Tryd.func23 rfl Tryd.ntmps23 rfl (fun B => ?_)
    repeat' (first | apply v_seq | apply v_region | apply v_nil | apply v_skip | apply v_block | apply v_blk | (apply v_exit; (case hp => rfl)) | (apply v_take; (case hg => rfl)) | (apply v_pass; (case hg => rfl); (case hn => rfl); (case hd => rfl)) | (apply v_passN; (case hg => rfl); (case hn => rfl); (case hd => rfl)) | (apply v_pure; (case hop => first | (apply p_move <;> rfl) | (apply p_assign <;> rfl) | (apply p_extract0 <;> rfl) | (apply p_extract1 <;> rfl) | (apply p_extract2 <;> rfl) | (apply p_extract <;> rfl) | (apply p_add; (case hx => rfl); (case hy => rfl); (case h => omega)) | (apply p_sliceL; (case hx => rfl); (case hl => rfl); all_goals omega) | (apply p_sliceH; (case hx => rfl); (case hh => rfl); all_goals omega) | (apply p_sliceLH; (case hx => rfl); (case hl => rfl); (case hh => rfl); all_goals omega) | (apply p_slice3; (case hx => rfl); (case hh => rfl); (case hq => rfl); all_goals omega) | (apply p_sliceStrL; (case hx => rfl); (case hl => rfl); all_goals omega) | (apply p_sliceStrH; (case hx => rfl); (case hh => rfl); all_goals omega)); (case hd => rfl)) | (apply v_condT; (case hc => rfl)) | (apply v_condF; (case hc => rfl)) | (apply v_cond; (case hc => rfl); all_goals (intro h; (try simp only [reduceCtorEq, dec_true, dec_false, decide_eq_true_eq, decide_eq_false_iff_not, Bool.not_eq_true', Bool.not_eq_false', Option.isNone_iff_eq_none, beq_true, beq_false, beq_iff_eq, beq_eq_false_iff_ne, ne_eq, decide_eq_decide, Bool.not_eq_true, Bool.not_eq_false, Decidable.not_not] at h); first | done | (exfalso; omega) | (exfalso; exact h (by with_reducible assumption)) | (exfalso; revert h; rw [imp_false]; with_reducible assumption) | skip)) | (apply v_guardB; (case h1 => rfl); (case h2 => rfl); all_goals (intro h; (try simp only [reduceCtorEq, dec_true, dec_false, decide_eq_true_eq, decide_eq_false_iff_not, Bool.not_eq_true', Bool.not_eq_false', Option.isNone_iff_eq_none, beq_true, beq_false, beq_iff_eq, beq_eq_false_iff_ne, ne_eq, decide_eq_decide, Bool.not_eq_true, Bool.not_eq_false, Decidable.not_not] at h); first | done | (exfalso; omega) | (exfalso; exact h (by with_reducible assumption)) | (exfalso; revert h; rw [imp_false]; with_reducible assumption) | skip)) | (apply v_callJ (hs := qp); (case ha => rfl); (case hd => rfl)) | fail)
    refine v_call (μ1 := []) (μ2 := _) rfl qc (List.Perm.refl _) rfl ?_
    rintro r G' μ1 _ ⟨rfl, hg⟩
    repeat' (first | apply v_seq | apply v_region | apply v_nil | apply v_skip | apply v_block | apply v_blk | (apply v_exit; (case hp => rfl)) | (apply v_take; (case hg => rfl)) | (apply v_pass; (case hg => rfl); (case hn => rfl); (case hd => rfl)) | (apply v_passN; (case hg => rfl); (case hn => rfl); (case hd => rfl)) | (apply v_pure; (case hop => first | (apply p_move <;> rfl) | (apply p_assign <;> rfl) | (apply p_extract0 <;> rfl) | (apply p_extract1 <;> rfl) | (apply p_extract2 <;> rfl) | (apply p_extract <;> rfl) | (apply p_add; (case hx => rfl); (case hy => rfl); (case h => omega)) | (apply p_sliceL; (case hx => rfl); (case hl => rfl); all_goals omega) | (apply p_sliceH; (case hx => rfl); (case hh => rfl); all_goals omega) | (apply p_sliceLH; (case hx => rfl); (case hl => rfl); (case hh => rfl); all_goals omega) | (apply p_slice3; (case hx => rfl); (case hh => rfl); (case hq => rfl); all_goals omega) | (apply p_sliceStrL; (case hx => rfl); (case hl => rfl); all_goals omega) | (apply p_sliceStrH; (case hx => rfl); (case hh => rfl); all_goals omega)); (case hd => rfl)) | (apply v_condT; (case hc => rfl)) | (apply v_condF; (case hc => rfl)) | (apply v_cond; (case hc => rfl); all_goals (intro h; (try simp only [reduceCtorEq, dec_true, dec_false, decide_eq_true_eq, decide_eq_false_iff_not, Bool.not_eq_true', Bool.not_eq_false', Option.isNone_iff_eq_none, beq_true, beq_false, beq_iff_eq, beq_eq_false_iff_ne, ne_eq, decide_eq_decide, Bool.not_eq_true, Bool.not_eq_false, Decidable.not_not] at h); first | done | (exfalso; omega) | (exfalso; exact h (by with_reducible assumption)) | (exfalso; revert h; rw [imp_false]; with_reducible assumption) | skip)) | (apply v_guardB; (case h1 => rfl); (case h2 => rfl); all_goals (intro h; (try simp only [reduceCtorEq, dec_true, dec_false, decide_eq_true_eq, decide_eq_false_iff_not, Bool.not_eq_true', Bool.not_eq_false', Option.isNone_iff_eq_none, beq_true, beq_false, beq_iff_eq, beq_eq_false_iff_ne, ne_eq, decide_eq_decide, Bool.not_eq_true, Bool.not_eq_false, Decidable.not_not] at h); first | done | (exfalso; omega) | (exfalso; exact h (by with_reducible assumption)) | (exfalso; revert h; rw [imp_false]; with_reducible assumption) | skip)) | fail)
    refine v_ret _ (outsA1 rfl rfl) (by repeat (first | exact List.Sublist.refl _ | exact List.nil_sublist _ | apply List.Sublist.cons_cons | apply List.Sublist.cons | exact List.sublist_append_left _ _ | apply List.sublist_append_of_sublist_right)) ?_
    exact ⟨rfl, by simpa using hg⟩
  · rw [hh] at qp
    have hlt := hitB_lt hh
    have qc := entClone_s (es_take hs (p := placeN l n + 1) (by omega)) (by rw [List.length_take]; omega)
    refine v_enter Tryd.func23 rfl Tryd.ntmps23 rfl (fun B => ?_)
    repeat' (first | apply v_seq | apply v_region | apply v_nil | apply v_skip | apply v_block | apply v_blk | (apply v_exit; (case hp => rfl)) | (apply v_take; (case hg => rfl)) | (apply v_pass; (case hg => rfl); (case hn => rfl); (case hd => rfl)) | (apply v_passN; (case hg => rfl); (case hn => rfl); (case hd => rfl)) | (apply v_pure; (case hop => first | (apply p_move <;> rfl) | (apply p_assign <;> rfl) | (apply p_extract0 <;> rfl) | (apply p_extract1 <;> rfl) | (apply p_extract2 <;> rfl) | (apply p_extract <;> rfl) | (apply p_add; (case hx => rfl); (case hy => rfl); (case h => omega)) | (apply p_sliceL; (case hx => rfl); (case hl => rfl); all_goals omega) | (apply p_sliceH; (case hx => rfl); (case hh => rfl); all_goals omega) | (apply p_sliceLH; (case hx => rfl); (case hl => rfl); (case hh => rfl); all_goals omega) | (apply p_slice3; (case hx => rfl); (case hh => rfl); (case hq => rfl); all_goals omega) | (apply p_sliceStrL; (case hx => rfl); (case hl => rfl); all_goals omega) | (apply p_sliceStrH; (case hx => rfl); (case hh => rfl); all_goals omega)); (case hd => rfl)) | (apply v_condT; (case hc => rfl)) | (apply v_condF; (case hc => rfl)) | (apply v_cond; (case hc => rfl); all_goals (intro h; (try simp only [reduceCtorEq, dec_true, dec_false, decide_eq_true_eq, decide_eq_false_iff_not, Bool.not_eq_true', Bool.not_eq_false', Option.isNone_iff_eq_none, beq_true, beq_false, beq_iff_eq, beq_eq_false_iff_ne, ne_eq, decide_eq_decide, Bool.not_eq_true, Bool.not_eq_false, Decidable.not_not] at h); first | done | (exfalso; omega) | (exfalso; exact h (by with_reducible assumption)) | (exfalso; revert h; rw [imp_false]; with_reducible assumption) | skip)) | (apply v_guardB; (case h1 => rfl); (case h2 => rfl); all_goals (intro h; (try simp only [reduceCtorEq, dec_true, dec_false, decide_eq_true_eq, decide_eq_false_iff_not, Bool.not_eq_true', Bool.not_eq_false', Option.isNone_iff_eq_none, beq_true, beq_false, beq_iff_eq, beq_eq_false_iff_ne, ne_eq, decide_eq_decide, Bool.not_eq_true, Bool.not_eq_false, Decidable.not_not] at h); first | done | (exfalso; omega) | (exfalso; exact h (by with_reducible assumption)) | (exfalso; revert h; rw [imp_false]; with_reducible assumption) | skip)) | (apply v_callJ (hs := qp); (case ha => rfl); (case hd => rfl)) | fail)
    refine v_call (μ1 := []) (μ2 := _) rfl qc (List.Perm.refl _) rfl ?_
    rintro r G' μ1 _ ⟨rfl, hg⟩
    repeat' (first | apply v_seq | apply v_region | apply v_nil | apply v_skip | apply v_block | apply v_blk | (apply v_exit; (case hp => rfl)) | (apply v_take; (case hg => rfl)) | (apply v_pass; (case hg => rfl); (case hn => rfl); (case hd => rfl)) | (apply v_passN; (case hg => rfl); (case hn => rfl); (case hd => rfl)) | (apply v_pure; (case hop => first | (apply p_move <;> rfl) | (apply p_assign <;> rfl) | (apply p_extract0 <;> rfl) | (apply p_extract1 <;> rfl) | (apply p_extract2 <;> rfl) | (apply p_extract <;> rfl) | (apply p_add; (case hx => rfl); (case hy => rfl); (case h => omega)) | (apply p_sliceL; (case hx => rfl); (case hl => rfl); all_goals omega) | (apply p_sliceH; (case hx => rfl); (case hh => rfl); all_goals omega) | (apply p_sliceLH; (case hx => rfl); (case hl => rfl); (case hh => rfl); all_goals omega) | (apply p_slice3; (case hx => rfl); (case hh => rfl); (case hq => rfl); all_goals omega) | (apply p_sliceStrL; (case hx => rfl); (case hl => rfl); all_goals omega) | (apply p_sliceStrH; (case hx => rfl); (case hh => rfl); all_goals omega)); (case hd => rfl)) | (apply v_condT; (case hc => rfl)) | (apply v_condF; (case hc => rfl)) | (apply v_cond; (case hc => rfl); all_goals (intro h; (try simp only [reduceCtorEq, dec_true, dec_false, decide_eq_true_eq, decide_eq_false_iff_not, Bool.not_eq_true', Bool.not_eq_false', Option.isNone_iff_eq_none, beq_true, beq_false, beq_iff_eq, beq_eq_false_iff_ne, ne_eq, decide_eq_decide, Bool.not_eq_true, Bool.not_eq_false, Decidable.not_not] at h); first | done | (exfalso; omega) | (exfalso; exact h (by with_reducible assumption)) | (exfalso; revert h; rw [imp_false]; with_reducible assumption) | skip)) | (apply v_guardB; (case h1 => rfl); (case h2 => rfl); all_goals (intro h; (try simp only [reduceCtorEq, dec_true, dec_false, decide_eq_true_eq, decide_eq_false_iff_not, Bool.not_eq_true', Bool.not_eq_false', Option.isNone_iff_eq_none, beq_true, beq_false, beq_iff_eq, beq_eq_false_iff_ne, ne_eq, decide_eq_decide, Bool.not_eq_true, Bool.not_eq_false, Decidable.not_not] at h); first | done | (exfalso; omega) | (exfalso; exact h (by with_reducible assumption)) | (exfalso; revert h; rw [imp_false]; with_reducible assumption) | skip)) | fail)
    refine v_ret _ (outsA1 rfl rfl) (by repeat (first | exact List.Sublist.refl _ | exact List.nil_sublist _ | apply List.Sublist.cons_cons | apply List.Sublist.cons | exact List.sublist_append_left _ _ | apply List.sublist_append_of_sublist_right)) ?_
    exact ⟨rfl, by simpa using hg⟩
/-- Entries between two indices. -/
def btw (a b : Int) (l : List Ent) : List Ent := l.filter fun x => decide (a ≤ x.index) && decide (x.index ≤ b)
theorem btw_succ {a b : Int} {l : List Ent} {k : Nat} (h : k < l.length) : btw a b (l.take (k + 1)) = btw a b (l.take k) ++ (if a ≤ l[k].index ∧ l[k].index ≤ b then [l[k]] else []) := by
  rw [btw, btw, List.take_add_one, List.getElem?_eq_getElem h, List.filter_append]
  congr 1
  by_cases h1 : a ≤ l[k].index ∧ l[k].index ≤ b
  · rw [if_pos h1]; simp [h1.1, h1.2]
  · rw [if_neg h1]
    simp only [Option.toList_some, List.filter_cons, List.filter_nil]
    rw [if_neg]
    simpa using h1
theorem between_s {G : GH} {l : List Ent} {sv : Value} (lo hi : Int) (hs : Es G sv l) (hn : l.length ≤ 40) : Con Tryd.prog 22 #[sv, .int .i64 lo, .int .i64 hi] G [] (Mine (btw lo hi l) G) := by
  obtain ⟨A, c, rfl, hlc, hcm, hsome, hcp, hcb, hcc, hok⟩ := esOpen hs
  simp only [maxLen] at hcm
  refine v_enter Tryd.func22 rfl Tryd.ntmps22 rfl (fun B => ?_)
  repeat' (first | apply v_seq | apply v_region | apply v_nil | apply v_skip | apply v_block | apply v_blk | (apply v_exit; (case hp => rfl)) | (apply v_take; (case hg => rfl)) | (apply v_pass; (case hg => rfl); (case hn => rfl); (case hd => rfl)) | (apply v_passN; (case hg => rfl); (case hn => rfl); (case hd => rfl)) | (apply v_pure; (case hop => first | (apply p_move <;> rfl) | (apply p_lt <;> rfl) | (apply p_le <;> rfl) | (apply p_ge <;> rfl) | (apply p_assign <;> rfl) | (apply p_pickT <;> rfl) | (apply p_pickF <;> rfl) | (apply p_lenSlice <;> rfl) | (apply p_fieldAddrB <;> rfl) | (apply p_fieldAddr <;> rfl) | (apply p_add; (case hx => rfl); (case hy => rfl); (case h => omega)) | (apply p_indexAddrB; (case hx => rfl); (case hi => rfl); (case h0 => omega); (case h => omega)) | (apply p_indexAddr; (case hx => rfl); (case hi => rfl); (case h0 => omega); (case h => omega)) | (apply p_indexAddrA; (case hx => rfl); (case hi => rfl); (case h0 => omega); (case h => omega)) | (apply p_indexAddrS; (case hx => rfl); (case hi => rfl); (case h0 => omega); (case h => omega); (case hA => first | rfl | assumption | (apply_assumption; omega))) | (apply p_lenString <;> rfl) | (apply p_pickAnd <;> rfl) | (apply p_pickOr <;> rfl)); (case hd => rfl)) | (apply v_condT; (case hc => rfl)) | (apply v_condF; (case hc => rfl)) | (apply v_cond; (case hc => rfl); all_goals (intro h; (try simp only [reduceCtorEq, dec_true, dec_false, decide_eq_true_eq, decide_eq_false_iff_not, Bool.not_eq_true', Bool.not_eq_false', Option.isNone_iff_eq_none, beq_true, beq_false, beq_iff_eq, beq_eq_false_iff_ne, ne_eq, decide_eq_decide, Bool.not_eq_true, Bool.not_eq_false, Decidable.not_not] at h); first | done | (exfalso; omega) | (exfalso; exact h (by with_reducible assumption)) | (exfalso; revert h; rw [imp_false]; with_reducible assumption) | skip)) | (apply v_guardB; (case h1 => rfl); (case h2 => rfl); all_goals (intro h; (try simp only [reduceCtorEq, dec_true, dec_false, decide_eq_true_eq, decide_eq_false_iff_not, Bool.not_eq_true', Bool.not_eq_false', Option.isNone_iff_eq_none, beq_true, beq_false, beq_iff_eq, beq_eq_false_iff_ne, ne_eq, decide_eq_decide, Bool.not_eq_true, Bool.not_eq_false, Decidable.not_not] at h); first | done | (exfalso; omega) | (exfalso; exact h (by with_reducible assumption)) | (exfalso; revert h; rw [imp_false]; with_reducible assumption) | skip)) | (apply v_read; (case hop => first | (apply r_loadNo; (case hx => rfl); (case h => (repeat (first | exact List.Mem.head _ | apply List.Mem.tail | apply List.mem_append_right))); (case hd => (repeat (first | with_reducible exact dt_nil | apply dt_here | apply dt_drop))); (case hn => rfl)) | (apply r_load1; rfl; (apply Cell.own; (case h => (repeat (first | exact List.Mem.head _ | apply List.Mem.tail | apply List.mem_append_right))); rfl)) | (apply r_loadN; rfl; (apply CellsAt.own; (case h => (repeat (first | exact List.Mem.head _ | apply List.Mem.tail | apply List.mem_append_right)))); rfl)); (case hd => rfl)) | (apply v_buildSlice; (case hz => rfl); (case hi => rfl); (case hv => (simp only [List.map_cons, List.map_nil]; repeat (first | with_reducible exact evs_nil | (apply evs_cons; (case h1 => rfl))))); (case hp => (first | with_reducible exact pk_nil | (apply pk_cons; (case hc => rfl); (case hs => rfl); (case h => (first | with_reducible exact pk_nil | (apply pk_cons; (case hc => rfl); (case hs => rfl); (case h => (first | with_reducible exact pk_nil | (apply pk_cons; (case hc => rfl); (case hs => rfl); (case h => (first | with_reducible exact pk_nil | (apply pk_cons; (case hc => rfl); (case hs => rfl); (case h => (first | with_reducible exact pk_nil | (apply pk_cons; (case hc => rfl); (case hs => rfl); (case h => (first | with_reducible exact pk_nil | (apply pk_cons; (case hc => rfl); (case hs => rfl); (case h => (first | with_reducible exact pk_nil | (apply pk_cons; (case hc => rfl); (case hs => rfl); (case h => (first | with_reducible exact pk_nil | (apply pk_cons; (case hc => rfl); (case hs => rfl); (case h => (with_reducible exact pk_nil)); (case he => (first | ((repeat (first | with_reducible exact ap_nil | apply ap_cons)); done) | rfl))) | rfl)); (case he => (first | ((repeat (first | with_reducible exact ap_nil | apply ap_cons)); done) | rfl))) | rfl)); (case he => (first | ((repeat (first | with_reducible exact ap_nil | apply ap_cons)); done) | rfl))) | rfl)); (case he => (first | ((repeat (first | with_reducible exact ap_nil | apply ap_cons)); done) | rfl))) | rfl)); (case he => (first | ((repeat (first | with_reducible exact ap_nil | apply ap_cons)); done) | rfl))) | rfl)); (case he => (first | ((repeat (first | with_reducible exact ap_nil | apply ap_cons)); done) | rfl))) | rfl)); (case he => (first | ((repeat (first | with_reducible exact ap_nil | apply ap_cons)); done) | rfl))) | rfl)); (case he => (first | ((repeat (first | with_reducible exact ap_nil | apply ap_cons)); done) | rfl))) | rfl)); (case hb => rfl); (case hd => rfl); intro b) | fail)
  refine v_loop [8, 0, 1, 2, 7] (fun us G' μ' => G' = G ∧ ∃ (k : Nat) (out : Value), k ≤ l.length ∧ us = [Value.int .i64 (k : Nat), .slice A l.length c, .int .i64 lo, .int .i64 hi, out] ∧ Grow 36 10 out (btw lo hi (l.take k)).length (esC (btw lo hi (l.take k))) μ') (fun us => l.length - (headI us).toNat) rfl ⟨rfl, 0, _, by omega, rfl, Grow.nil _ _⟩ ?_
  rintro us G' μ' ⟨rfl, k, out, hk, rfl, hg⟩
  have e1 : ((k : Nat) : Int).toNat = k := by omega
  have hm : (btw lo hi (l.take k)).length ≤ k := by
    have h1 := List.length_filter_le (fun x : Ent => decide (lo ≤ x.index) && decide (x.index ≤ hi)) (l.take k)
    rw [List.length_take] at h1
    unfold btw
    omega
  repeat' (first | apply v_seq | apply v_region | apply v_nil | apply v_skip | apply v_block | apply v_blk | (apply v_exit; (case hp => rfl)) | (apply v_take; (case hg => rfl)) | (apply v_pass; (case hg => rfl); (case hn => rfl); (case hd => rfl)) | (apply v_passN; (case hg => rfl); (case hn => rfl); (case hd => rfl)) | (apply v_pure; (case hop => first | (apply p_move <;> rfl) | (apply p_lt <;> rfl) | (apply p_le <;> rfl) | (apply p_ge <;> rfl) | (apply p_assign <;> rfl) | (apply p_pickT <;> rfl) | (apply p_pickF <;> rfl) | (apply p_lenSlice <;> rfl) | (apply p_fieldAddrB <;> rfl) | (apply p_fieldAddr <;> rfl) | (apply p_add; (case hx => rfl); (case hy => rfl); (case h => omega)) | (apply p_indexAddrB; (case hx => rfl); (case hi => rfl); (case h0 => omega); (case h => omega)) | (apply p_indexAddr; (case hx => rfl); (case hi => rfl); (case h0 => omega); (case h => omega)) | (apply p_indexAddrA; (case hx => rfl); (case hi => rfl); (case h0 => omega); (case h => omega)) | (apply p_indexAddrS; (case hx => rfl); (case hi => rfl); (case h0 => omega); (case h => omega); (case hA => first | rfl | assumption | (apply_assumption; omega))) | (apply p_lenString <;> rfl) | (apply p_pickAnd <;> rfl) | (apply p_pickOr <;> rfl)); (case hd => rfl)) | (apply v_condT; (case hc => rfl)) | (apply v_condF; (case hc => rfl)) | (apply v_cond; (case hc => rfl); all_goals (intro h; (try simp only [reduceCtorEq, dec_true, dec_false, decide_eq_true_eq, decide_eq_false_iff_not, Bool.not_eq_true', Bool.not_eq_false', Option.isNone_iff_eq_none, beq_true, beq_false, beq_iff_eq, beq_eq_false_iff_ne, ne_eq, decide_eq_decide, Bool.not_eq_true, Bool.not_eq_false, Decidable.not_not] at h); first | done | (exfalso; omega) | (exfalso; exact h (by with_reducible assumption)) | (exfalso; revert h; rw [imp_false]; with_reducible assumption) | skip)) | (apply v_guardB; (case h1 => rfl); (case h2 => rfl); all_goals (intro h; (try simp only [reduceCtorEq, dec_true, dec_false, decide_eq_true_eq, decide_eq_false_iff_not, Bool.not_eq_true', Bool.not_eq_false', Option.isNone_iff_eq_none, beq_true, beq_false, beq_iff_eq, beq_eq_false_iff_ne, ne_eq, decide_eq_decide, Bool.not_eq_true, Bool.not_eq_false, Decidable.not_not] at h); first | done | (exfalso; omega) | (exfalso; exact h (by with_reducible assumption)) | (exfalso; revert h; rw [imp_false]; with_reducible assumption) | skip)) | (apply v_read; (case hop => first | (apply r_load1; rfl; exact Cell.frozen (esCell hcp _ (by omega))) | (apply r_loadN; rfl; exact CellsAt.frozen (hcp _ (by omega)); rfl)); (case hd => rfl)) | (apply v_read; (case hop => first | (apply r_loadNo; (case hx => rfl); (case h => (repeat (first | exact List.Mem.head _ | apply List.Mem.tail | apply List.mem_append_right))); (case hd => (repeat (first | with_reducible exact dt_nil | apply dt_here | apply dt_drop))); (case hn => rfl)) | (apply r_load1; rfl; (apply Cell.own; (case h => (repeat (first | exact List.Mem.head _ | apply List.Mem.tail | apply List.mem_append_right))); rfl)) | (apply r_loadN; rfl; (apply CellsAt.own; (case h => (repeat (first | exact List.Mem.head _ | apply List.Mem.tail | apply List.mem_append_right)))); rfl)); (case hd => rfl)) | (apply v_buildSlice; (case hz => rfl); (case hi => rfl); (case hv => (simp only [List.map_cons, List.map_nil]; repeat (first | with_reducible exact evs_nil | (apply evs_cons; (case h1 => rfl))))); (case hp => (first | with_reducible exact pk_nil | (apply pk_cons; (case hc => rfl); (case hs => rfl); (case h => (first | with_reducible exact pk_nil | (apply pk_cons; (case hc => rfl); (case hs => rfl); (case h => (first | with_reducible exact pk_nil | (apply pk_cons; (case hc => rfl); (case hs => rfl); (case h => (first | with_reducible exact pk_nil | (apply pk_cons; (case hc => rfl); (case hs => rfl); (case h => (first | with_reducible exact pk_nil | (apply pk_cons; (case hc => rfl); (case hs => rfl); (case h => (first | with_reducible exact pk_nil | (apply pk_cons; (case hc => rfl); (case hs => rfl); (case h => (first | with_reducible exact pk_nil | (apply pk_cons; (case hc => rfl); (case hs => rfl); (case h => (first | with_reducible exact pk_nil | (apply pk_cons; (case hc => rfl); (case hs => rfl); (case h => (with_reducible exact pk_nil)); (case he => (first | ((repeat (first | with_reducible exact ap_nil | apply ap_cons)); done) | rfl))) | rfl)); (case he => (first | ((repeat (first | with_reducible exact ap_nil | apply ap_cons)); done) | rfl))) | rfl)); (case he => (first | ((repeat (first | with_reducible exact ap_nil | apply ap_cons)); done) | rfl))) | rfl)); (case he => (first | ((repeat (first | with_reducible exact ap_nil | apply ap_cons)); done) | rfl))) | rfl)); (case he => (first | ((repeat (first | with_reducible exact ap_nil | apply ap_cons)); done) | rfl))) | rfl)); (case he => (first | ((repeat (first | with_reducible exact ap_nil | apply ap_cons)); done) | rfl))) | rfl)); (case he => (first | ((repeat (first | with_reducible exact ap_nil | apply ap_cons)); done) | rfl))) | rfl)); (case he => (first | ((repeat (first | with_reducible exact ap_nil | apply ap_cons)); done) | rfl))) | rfl)); (case hb => rfl); (case hd => rfl); intro b) | fail)
  · have hlt : k < l.length := by omega
    refine v_append (e := 36) (agg := true) (sz := 10) (bytes := 104) (zero := zE) rfl (by omega) rfl rfl hg (List.perm_append_singleton _ _).symm (m' := 1) (us := (l[k]'hlt).cells) (Src.own (e := 36) (List.Mem.head _) rfl) rfl (by omega) (by simp only [maxLen]; omega) rfl fun v' ν' hg' => ?_
    repeat' (first | apply v_seq | apply v_region | apply v_nil | apply v_skip | apply v_block | apply v_blk | (apply v_exit; (case hp => rfl)) | (apply v_take; (case hg => rfl)) | (apply v_pass; (case hg => rfl); (case hn => rfl); (case hd => rfl)) | (apply v_passN; (case hg => rfl); (case hn => rfl); (case hd => rfl)) | (apply v_pure; (case hop => first | (apply p_move <;> rfl) | (apply p_lt <;> rfl) | (apply p_le <;> rfl) | (apply p_ge <;> rfl) | (apply p_assign <;> rfl) | (apply p_pickT <;> rfl) | (apply p_pickF <;> rfl) | (apply p_lenSlice <;> rfl) | (apply p_fieldAddrB <;> rfl) | (apply p_fieldAddr <;> rfl) | (apply p_add; (case hx => rfl); (case hy => rfl); (case h => omega)) | (apply p_indexAddrB; (case hx => rfl); (case hi => rfl); (case h0 => omega); (case h => omega)) | (apply p_indexAddr; (case hx => rfl); (case hi => rfl); (case h0 => omega); (case h => omega)) | (apply p_indexAddrA; (case hx => rfl); (case hi => rfl); (case h0 => omega); (case h => omega)) | (apply p_indexAddrS; (case hx => rfl); (case hi => rfl); (case h0 => omega); (case h => omega); (case hA => first | rfl | assumption | (apply_assumption; omega))) | (apply p_lenString <;> rfl) | (apply p_pickAnd <;> rfl) | (apply p_pickOr <;> rfl)); (case hd => rfl)) | (apply v_condT; (case hc => rfl)) | (apply v_condF; (case hc => rfl)) | (apply v_cond; (case hc => rfl); all_goals (intro h; (try simp only [reduceCtorEq, dec_true, dec_false, decide_eq_true_eq, decide_eq_false_iff_not, Bool.not_eq_true', Bool.not_eq_false', Option.isNone_iff_eq_none, beq_true, beq_false, beq_iff_eq, beq_eq_false_iff_ne, ne_eq, decide_eq_decide, Bool.not_eq_true, Bool.not_eq_false, Decidable.not_not] at h); first | done | (exfalso; omega) | (exfalso; exact h (by with_reducible assumption)) | (exfalso; revert h; rw [imp_false]; with_reducible assumption) | skip)) | (apply v_guardB; (case h1 => rfl); (case h2 => rfl); all_goals (intro h; (try simp only [reduceCtorEq, dec_true, dec_false, decide_eq_true_eq, decide_eq_false_iff_not, Bool.not_eq_true', Bool.not_eq_false', Option.isNone_iff_eq_none, beq_true, beq_false, beq_iff_eq, beq_eq_false_iff_ne, ne_eq, decide_eq_decide, Bool.not_eq_true, Bool.not_eq_false, Decidable.not_not] at h); first | done | (exfalso; omega) | (exfalso; exact h (by with_reducible assumption)) | (exfalso; revert h; rw [imp_false]; with_reducible assumption) | skip)) | (apply v_read; (case hop => first | (apply r_loadNo; (case hx => rfl); (case h => (repeat (first | exact List.Mem.head _ | apply List.Mem.tail | apply List.mem_append_right))); (case hd => (repeat (first | with_reducible exact dt_nil | apply dt_here | apply dt_drop))); (case hn => rfl)) | (apply r_load1; rfl; (apply Cell.own; (case h => (repeat (first | exact List.Mem.head _ | apply List.Mem.tail | apply List.mem_append_right))); rfl)) | (apply r_loadN; rfl; (apply CellsAt.own; (case h => (repeat (first | exact List.Mem.head _ | apply List.Mem.tail | apply List.mem_append_right)))); rfl)); (case hd => rfl)) | (apply v_buildSlice; (case hz => rfl); (case hi => rfl); (case hv => (simp only [List.map_cons, List.map_nil]; repeat (first | with_reducible exact evs_nil | (apply evs_cons; (case h1 => rfl))))); (case hp => (first | with_reducible exact pk_nil | (apply pk_cons; (case hc => rfl); (case hs => rfl); (case h => (first | with_reducible exact pk_nil | (apply pk_cons; (case hc => rfl); (case hs => rfl); (case h => (first | with_reducible exact pk_nil | (apply pk_cons; (case hc => rfl); (case hs => rfl); (case h => (first | with_reducible exact pk_nil | (apply pk_cons; (case hc => rfl); (case hs => rfl); (case h => (first | with_reducible exact pk_nil | (apply pk_cons; (case hc => rfl); (case hs => rfl); (case h => (first | with_reducible exact pk_nil | (apply pk_cons; (case hc => rfl); (case hs => rfl); (case h => (first | with_reducible exact pk_nil | (apply pk_cons; (case hc => rfl); (case hs => rfl); (case h => (first | with_reducible exact pk_nil | (apply pk_cons; (case hc => rfl); (case hs => rfl); (case h => (with_reducible exact pk_nil)); (case he => (first | ((repeat (first | with_reducible exact ap_nil | apply ap_cons)); done) | rfl))) | rfl)); (case he => (first | ((repeat (first | with_reducible exact ap_nil | apply ap_cons)); done) | rfl))) | rfl)); (case he => (first | ((repeat (first | with_reducible exact ap_nil | apply ap_cons)); done) | rfl))) | rfl)); (case he => (first | ((repeat (first | with_reducible exact ap_nil | apply ap_cons)); done) | rfl))) | rfl)); (case he => (first | ((repeat (first | with_reducible exact ap_nil | apply ap_cons)); done) | rfl))) | rfl)); (case he => (first | ((repeat (first | with_reducible exact ap_nil | apply ap_cons)); done) | rfl))) | rfl)); (case he => (first | ((repeat (first | with_reducible exact ap_nil | apply ap_cons)); done) | rfl))) | rfl)); (case he => (first | ((repeat (first | with_reducible exact ap_nil | apply ap_cons)); done) | rfl))) | rfl)); (case hb => rfl); (case hd => rfl); intro b) | fail)
    refine v_drop (ν := ν') (List.sublist_append_left _ _) ?_
    refine v_again rfl ⟨rfl, k + 1, v', by omega, rfl, ?_⟩ (by simp [headI]; omega)
    rw [btw_succ hlt, if_pos ⟨by assumption, by assumption⟩, esC_append, List.length_append]
    simpa [esC] using hg'
  · have hlt : k < l.length := by omega
    refine v_again rfl ⟨rfl, k + 1, out, by omega, rfl, ?_⟩ (by simp [headI]; omega)
    rw [btw_succ hlt, if_neg (fun h => absurd h.2 (by assumption)), List.append_nil]
    exact hg
  · have hlt : k < l.length := by omega
    refine v_again rfl ⟨rfl, k + 1, out, by omega, rfl, ?_⟩ (by simp [headI]; omega)
    rw [btw_succ hlt, if_neg (fun h => absurd h.1 (by assumption)), List.append_nil]
    exact hg
  · refine v_ret _ (outsA1 rfl rfl) (by repeat (first | exact List.Sublist.refl _ | exact List.nil_sublist _ | apply List.Sublist.cons_cons | apply List.Sublist.cons | exact List.sublist_append_left _ _ | apply List.sublist_append_of_sublist_right)) ?_
    refine ⟨rfl, ?_⟩
    rw [List.take_of_length_le (by omega)] at hg
    exact hg
/-! ### The two ways agree -/
theorem filter_split {l : List Ent} {p : Ent → Bool} {i : Nat} (h1 : ∀ m (h : m < l.length), m < i → p l[m] = false) (h2 : ∀ m (h : m < l.length), i ≤ m → p l[m] = true) : l.filter p = l.drop i := by
  have e : l = l.take i ++ l.drop i := (List.take_append_drop i l).symm
  conv => lhs; rw [e]
  rw [List.filter_append, List.filter_eq_nil_iff.2, List.filter_eq_self.2, List.nil_append]
  · intro x hx
    obtain ⟨m, hm, rfl⟩ := List.getElem_of_mem hx
    rw [List.length_drop] at hm
    rw [List.getElem_drop]
    exact h2 _ _ (by omega)
  · intro x hx
    obtain ⟨m, hm, rfl⟩ := List.getElem_of_mem hx
    rw [List.length_take] at hm
    rw [List.getElem_take]
    simp [h1 m (by omega) (by omega)]
theorem filter_split' {l : List Ent} {p : Ent → Bool} {i : Nat} (h1 : ∀ m (h : m < l.length), m < i → p l[m] = true) (h2 : ∀ m (h : m < l.length), i ≤ m → p l[m] = false) : l.filter p = l.take i := by
  have e : l = l.take i ++ l.drop i := (List.take_append_drop i l).symm
  conv => lhs; rw [e]
  have z : (l.drop i).filter p = [] := by
    rw [List.filter_eq_nil_iff]
    intro x hx
    obtain ⟨m, hm, rfl⟩ := List.getElem_of_mem hx
    rw [List.length_drop] at hm
    rw [List.getElem_drop]
    simp [h2 (i + m) (by omega) (by omega)]
  rw [List.filter_append, z, List.filter_eq_self.2, List.append_nil]
  · intro x hx
    obtain ⟨m, hm, rfl⟩ := List.getElem_of_mem hx
    rw [List.length_take] at hm
    rw [List.getElem_take]
    exact h1 _ _ (by omega)
theorem placeN_lt {l : List Ent} (hr : RiseL l) {n : Int} {m : Nat} (hm : m < l.length) : m < placeN l n ↔ l[m].index < n := by
  constructor
  · intro h
    by_cases hc : l[m].index < n
    · exact hc
    · exfalso
      have := placeN_le l n
      have hle : placeN l n ≤ m := by
        have e : l = l.take m ++ l.drop m := (List.take_append_drop m l).symm
        have z : (l.drop m).countP (fun x => decide (x.index < n)) = 0 := by
          rw [List.countP_eq_zero]
          intro x hx
          obtain ⟨q, hq, rfl⟩ := List.getElem_of_mem hx
          rw [List.length_drop] at hq
          rw [List.getElem_drop]
          simp only [decide_eq_true_eq]
          by_cases h0 : q = 0
          · subst h0; exact hc
          · have := hr m (m + q) (by omega) (by omega)
            omega
        have z2 : placeN l n = (l.take m).countP (fun x => decide (x.index < n)) := by
          rw [placeN]
          conv => lhs; rw [e]
          rw [List.countP_append, z, Nat.add_zero]
        have z3 : (l.take m).countP (fun x => decide (x.index < n)) ≤ (l.take m).length := List.countP_le_length
        rw [List.length_take] at z3
        omega
      omega
  · intro h
    have e : l = l.take (m + 1) ++ l.drop (m + 1) := (List.take_append_drop (m + 1) l).symm
    have h1 : (l.take (m + 1)).countP (fun x => decide (x.index < n)) = m + 1 := by
      rw [List.countP_eq_length.2, List.length_take]
      · omega
      · intro x hx
        obtain ⟨q, hq, rfl⟩ := List.getElem_of_mem hx
        rw [List.length_take] at hq
        rw [List.getElem_take]
        simp only [decide_eq_true_eq]
        by_cases h0 : q = m
        · subst h0; exact h
        · have := hr q m hm (by omega)
          omega
    have h2 : placeN l n = m + 1 + (l.drop (m + 1)).countP (fun x => decide (x.index < n)) := by
      rw [placeN]
      conv => lhs; rw [e]
      rw [List.countP_append, h1]
    omega
theorem from_btw {l : List Ent} (hr : RiseL l) (n : Int) (hw : ∀ x ∈ l, x.index ≤ 9223372036854775807) : btw n 9223372036854775807 l = l.drop (placeN l n) := by
  refine filter_split (fun m h hm => ?_) (fun m h hm => ?_)
  · have := (placeN_lt hr h).1 hm
    simp; omega
  · have h1 := mt (placeN_lt (n := n) hr h).2 (by omega)
    have h2 := hw _ (List.getElem_mem h)
    simp; omega
theorem until_btw {l : List Ent} (hr : RiseL l) (n : Int) (hw : ∀ x ∈ l, -9223372036854775808 ≤ x.index) : btw (-9223372036854775808) n l = l.take (if hitB l n = true then placeN l n + 1 else placeN l n) := by
  have key : ∀ m (h : m < l.length), l[m].index ≤ n ↔ m < (if hitB l n = true then placeN l n + 1 else placeN l n) := fun m h => by
    have h1 := placeN_lt (n := n) hr h
    by_cases hh : hitB l n = true
    · rw [if_pos hh]
      have h2 := hitB_index hh
      have h3 := hitB_lt hh
      by_cases he : m = placeN l n
      · subst he; omega
      · by_cases hm : m < placeN l n
        · have := h1.1 hm; omega
        · have := hr (placeN l n) m h (by omega); omega
    · rw [if_neg hh]
      constructor
      · intro h4
        by_cases h5 : l[m].index = n
        · exact absurd (by rw [← h5]; exact hitB_at hr h) hh
        · exact h1.2 (by omega)
      · intro h4
        have := h1.1 h4; omega
  refine filter_split' (fun m h hm => ?_) (fun m h hm => ?_)
  · have h1 := (key m h).2 hm
    have h2 := hw _ (List.getElem_mem h)
    simp; omega
  · have h1 := mt (key m h).1 (by omega)
    simp; omega
end Go.Proofs.YtfckggkmiegokaaDoor
