/-
  conf (layer 11), the fourth part: members with a change.
-/
import Derived.Test.YtfckggkmiegokaaConfM
set_option linter.unusedSimpArgs false
set_option linter.unusedVariables false
namespace Go.Proofs.Ytfckggkmiegokaa
open Go.Vx Go.ChangeShapes Go.WideShapes Go.ChangeAt Go.RowKit
/-- Members with a change; none: it may not be. -/
def changedL (l : List Int) (kind n : Int) : List Int :=
  if kind = 7 ∧ l.contains n = false ∧ 1 ≤ n ∧ n ≤ 9 then l.take (l.countP (· < n)) ++ [n] ++ l.drop (l.countP (· < n))
  else if kind = 8 ∧ l.contains n = true ∧ 1 < l.length then l.take (l.countP (· < n)) ++ l.drop (l.countP (· < n) + 1) else []
theorem MemOK.sorted {l : List Int} (h : MemOK l) : l.Pairwise (· < ·) := by
  rw [List.pairwise_iff_getElem]
  obtain ⟨_, h⟩ := h
  have key : ∀ (d i : Nat) (hi : i + d + 1 < l.length), l[i] < l[i + d + 1] := by
    intro d
    induction d with
    | zero =>
      intro i hi
      have := (h (i + 1) (by omega)).2.2 (by omega)
      simpa using this
    | succ d ih =>
      intro i hi
      have h1 := ih i (by omega)
      have h2 := (h (i + (d + 1) + 1) hi).2.2 (by omega)
      have h3 : l[i + (d + 1) + 1 - 1] = l[i + d + 1] := by congr 1
      rw [h3] at h2
      omega
  intro i j hi hj hij
  have := key (j - i - 1) i (by omega)
  have h3 : l[i + (j - i - 1) + 1]'(by omega) = l[j] := by congr 1; omega
  omega
theorem MemOK.weak {l : List Int} (h : MemOK l) : l.Pairwise (· ≤ ·) := h.sorted.imp fun h => Int.le_of_lt h
theorem countP_lt {l : List Int} {n : Int} (h : l.contains n = true) : l.countP (· < n) < l.length := by
  have h1 : n ∈ l := by simpa using h
  rw [Nat.lt_iff_le_and_ne]
  refine ⟨List.countP_le_length, fun e => ?_⟩
  have := List.countP_eq_length.1 e n h1
  simp at this
theorem changed_s {G : GH} {l : List Int} {sv : Value} (kind n : Int) (hs : Sl G 1 (IntR .i64) sv l) (hok : MemOK l) (hbig : l.length ≤ 1048000) (hn : (Lit.int .i64 n).wf = true) :
    Con Try.prog 47 #[sv, .int .i64 kind, .int .i64 n] G [] (fun r G' μ' => μ' = [] ∧ ∃ v, r = .tuple #[v, .bool (decide (0 < (changedL l kind n).length))] ∧ Sl G' 1 (IntR .i64) v (changedL l kind n)) := by
  have hsearch := search_s n hs hok.1 (by omega) hok.weak
  obtain ⟨A, c, rfl, hlc, hcm, hsome, hel, hwf⟩ := hs.openInt
  simp only [maxLen] at hcm
  refine v_enter Try.func47 rfl Try.ntmps47 rfl (fun B => ?_)
  repeat' (first | apply v_seq | apply v_region | apply v_nil | apply v_skip | apply v_block | apply v_blk | (apply v_exit; (case hp => rfl)) | (apply v_take; (case hg => rfl)) | (apply v_pass; (case hg => rfl); (case hn => rfl); (case hd => rfl)) | (apply v_passN; (case hg => rfl); (case hn => rfl); (case hd => rfl)) | (apply v_pure; (case hop => first | (apply p_move <;> rfl) | (apply p_eqs <;> rfl) | (apply p_eqBs <;> rfl) | (apply p_eq <;> rfl) | (apply p_gt <;> rfl) | (apply p_le <;> rfl) | (apply p_ge <;> rfl) | (apply p_assign <;> rfl) | (apply p_pickT <;> rfl) | (apply p_pickF <;> rfl) | (apply p_not <;> rfl) | (apply p_lenSlice <;> rfl) | (apply p_extract0 <;> rfl) | (apply p_extract1 <;> rfl) | (apply p_extract2 <;> rfl) | (apply p_extract <;> rfl) | (apply p_add; (case hx => rfl); (case hy => rfl); (case h => omega)) | (apply p_lenString <;> rfl) | (apply p_eqB <;> rfl) | (apply p_eqNil <;> rfl) | (apply p_eqS <;> rfl) | (apply p_eqNilSlice <;> rfl)); (case hd => rfl)) | (apply v_condT; (case hc => rfl)) | (apply v_condF; (case hc => rfl)) | (apply v_cond; (case hc => rfl); all_goals (intro h; (try simp only [decide_eq_true_eq, decide_eq_false_iff_not, Bool.not_eq_true', Bool.not_eq_false', Option.isNone_iff_eq_none, beq_true, beq_false, beq_iff_eq, beq_eq_false_iff_ne, ne_eq, decide_eq_decide, Bool.not_eq_true, Bool.not_eq_false, Decidable.not_not] at h); first | contradiction | (exfalso; omega) | skip)) | (apply v_guardB; (case h1 => rfl); (case h2 => rfl); all_goals (intro h; (try simp only [decide_eq_true_eq, decide_eq_false_iff_not, Bool.not_eq_true', Bool.not_eq_false', Option.isNone_iff_eq_none, beq_true, beq_false, beq_iff_eq, beq_eq_false_iff_ne, ne_eq, decide_eq_decide, Bool.not_eq_true, Bool.not_eq_false, Decidable.not_not] at h); first | contradiction | (exfalso; omega) | skip)) | (apply v_callJ (hs := hsearch); (case ha => rfl); (case hd => rfl)) | (apply v_buildSlice; (case hz => rfl); (case hi => rfl); (case hv => (simp only [List.map_cons, List.map_nil]; repeat (first | with_reducible exact evs_nil | (apply evs_cons; (case h1 => rfl))))); (case hp => (first | with_reducible exact pk_nil | (apply pk_cons; (case hc => rfl); (case hs => rfl); (case h => (first | with_reducible exact pk_nil | (apply pk_cons; (case hc => rfl); (case hs => rfl); (case h => (first | with_reducible exact pk_nil | (apply pk_cons; (case hc => rfl); (case hs => rfl); (case h => (with_reducible exact pk_nil)); (case he => (first | ((repeat (first | with_reducible exact ap_nil | apply ap_cons)); done) | rfl))) | rfl)); (case he => (first | ((repeat (first | with_reducible exact ap_nil | apply ap_cons)); done) | rfl))) | rfl)); (case he => (first | ((repeat (first | with_reducible exact ap_nil | apply ap_cons)); done) | rfl))) | rfl)); (case hb => rfl); (case hd => rfl); intro b) | fail)
  all_goals try
    (refine v_ret [] (outsA2 rfl rfl rfl) (by repeat (first | exact List.Sublist.refl _ | exact List.nil_sublist _ | apply List.Sublist.cons_cons | apply List.Sublist.cons | exact List.sublist_append_left _ _ | apply List.sublist_append_of_sublist_right)) ?_
     have e : changedL l kind n = [] := by
       unfold changedL
       rw [if_neg, if_neg]
       · rintro ⟨h1, h2, h3⟩
         first | omega | simp_all
       · rintro ⟨h1, h2, h3⟩
         first | omega | simp_all
     rw [e]
     exact ⟨rfl, _, rfl, Sl.nil⟩)
  · have e : changedL l kind n = l.take (l.countP (· < n)) ++ [n] ++ l.drop (l.countP (· < n)) := by
      unfold changedL
      rw [if_pos]
      exact ⟨by assumption, by assumption, by omega, by omega⟩
    refine v_call (μ1 := []) (μ2 := _) rfl (clone_s hs (by omega)) (List.Perm.refl _) rfl ?_
    rintro r G' μ1 - ⟨rfl, hlen, ⟨-, h0, -⟩ | ⟨b, cap, spare, rfl, rfl, h1, h2, h3⟩⟩
    · have := hok.1; omega
    have hcP : l.countP (· < n) ≤ l.length := List.countP_le_length
    repeat' (first | apply v_seq | apply v_region | apply v_nil | apply v_skip | apply v_block | apply v_blk | (apply v_exit; (case hp => rfl)) | (apply v_take; (case hg => rfl)) | (apply v_pass; (case hg => rfl); (case hn => rfl); (case hd => rfl)) | (apply v_passN; (case hg => rfl); (case hn => rfl); (case hd => rfl)) | (apply v_pure; (case hop => first | (apply p_move <;> rfl) | (apply p_eqs <;> rfl) | (apply p_eqBs <;> rfl) | (apply p_eq <;> rfl) | (apply p_gt <;> rfl) | (apply p_le <;> rfl) | (apply p_ge <;> rfl) | (apply p_assign <;> rfl) | (apply p_pickT <;> rfl) | (apply p_pickF <;> rfl) | (apply p_not <;> rfl) | (apply p_lenSlice <;> rfl) | (apply p_extract0 <;> rfl) | (apply p_extract1 <;> rfl) | (apply p_extract2 <;> rfl) | (apply p_extract <;> rfl) | (apply p_add; (case hx => rfl); (case hy => rfl); (case h => omega)) | (apply p_lenString <;> rfl) | (apply p_eqB <;> rfl) | (apply p_eqNil <;> rfl) | (apply p_eqS <;> rfl) | (apply p_eqNilSlice <;> rfl)); (case hd => rfl)) | (apply v_condT; (case hc => rfl)) | (apply v_condF; (case hc => rfl)) | (apply v_cond; (case hc => rfl); all_goals (intro h; (try simp only [decide_eq_true_eq, decide_eq_false_iff_not, Bool.not_eq_true', Bool.not_eq_false', Option.isNone_iff_eq_none, beq_true, beq_false, beq_iff_eq, beq_eq_false_iff_ne, ne_eq, decide_eq_decide, Bool.not_eq_true, Bool.not_eq_false, Decidable.not_not] at h); first | contradiction | (exfalso; omega) | skip)) | (apply v_guardB; (case h1 => rfl); (case h2 => rfl); all_goals (intro h; (try simp only [decide_eq_true_eq, decide_eq_false_iff_not, Bool.not_eq_true', Bool.not_eq_false', Option.isNone_iff_eq_none, beq_true, beq_false, beq_iff_eq, beq_eq_false_iff_ne, ne_eq, decide_eq_decide, Bool.not_eq_true, Bool.not_eq_false, Decidable.not_not] at h); first | contradiction | (exfalso; omega) | skip)) | (apply v_buildSlice; (case hz => rfl); (case hi => rfl); (case hv => (simp only [List.map_cons, List.map_nil]; repeat (first | with_reducible exact evs_nil | (apply evs_cons; (case h1 => rfl))))); (case hp => (first | with_reducible exact pk_nil | (apply pk_cons; (case hc => rfl); (case hs => rfl); (case h => (first | with_reducible exact pk_nil | (apply pk_cons; (case hc => rfl); (case hs => rfl); (case h => (first | with_reducible exact pk_nil | (apply pk_cons; (case hc => rfl); (case hs => rfl); (case h => (with_reducible exact pk_nil)); (case he => (first | ((repeat (first | with_reducible exact ap_nil | apply ap_cons)); done) | rfl))) | rfl)); (case he => (first | ((repeat (first | with_reducible exact ap_nil | apply ap_cons)); done) | rfl))) | rfl)); (case he => (first | ((repeat (first | with_reducible exact ap_nil | apply ap_cons)); done) | rfl))) | rfl)); (case hb => rfl); (case hd => rfl); intro b) | fail)
    refine v_call (μ2 := []) rfl (insert_s (l := l) (i := l.countP (· < n)) (x := n) (spare := spare) hok.1 (by omega) hcP h1 h2 (by rw [h3]; omega)) (by rw [List.append_nil]; exact List.Perm.swap _ _ _) rfl ?_
    rintro r G'' μ1 - ⟨rfl, hg⟩
    refine v_freeze (ν := μ1) (μ := []) ?_
    intro G1 hle hG
    repeat' (first | apply v_seq | apply v_region | apply v_nil | apply v_skip | apply v_block | apply v_blk | (apply v_exit; (case hp => rfl)) | (apply v_take; (case hg => rfl)) | (apply v_pass; (case hg => rfl); (case hn => rfl); (case hd => rfl)) | (apply v_passN; (case hg => rfl); (case hn => rfl); (case hd => rfl)) | (apply v_pure; (case hop => first | (apply p_move <;> rfl) | (apply p_eqs <;> rfl) | (apply p_eqBs <;> rfl) | (apply p_eq <;> rfl) | (apply p_gt <;> rfl) | (apply p_le <;> rfl) | (apply p_ge <;> rfl) | (apply p_assign <;> rfl) | (apply p_pickT <;> rfl) | (apply p_pickF <;> rfl) | (apply p_not <;> rfl) | (apply p_lenSlice <;> rfl) | (apply p_extract0 <;> rfl) | (apply p_extract1 <;> rfl) | (apply p_extract2 <;> rfl) | (apply p_extract <;> rfl) | (apply p_add; (case hx => rfl); (case hy => rfl); (case h => omega)) | (apply p_lenString <;> rfl) | (apply p_eqB <;> rfl) | (apply p_eqNil <;> rfl) | (apply p_eqS <;> rfl) | (apply p_eqNilSlice <;> rfl)); (case hd => rfl)) | (apply v_condT; (case hc => rfl)) | (apply v_condF; (case hc => rfl)) | (apply v_cond; (case hc => rfl); all_goals (intro h; (try simp only [decide_eq_true_eq, decide_eq_false_iff_not, Bool.not_eq_true', Bool.not_eq_false', Option.isNone_iff_eq_none, beq_true, beq_false, beq_iff_eq, beq_eq_false_iff_ne, ne_eq, decide_eq_decide, Bool.not_eq_true, Bool.not_eq_false, Decidable.not_not] at h); first | contradiction | (exfalso; omega) | skip)) | (apply v_guardB; (case h1 => rfl); (case h2 => rfl); all_goals (intro h; (try simp only [decide_eq_true_eq, decide_eq_false_iff_not, Bool.not_eq_true', Bool.not_eq_false', Option.isNone_iff_eq_none, beq_true, beq_false, beq_iff_eq, beq_eq_false_iff_ne, ne_eq, decide_eq_decide, Bool.not_eq_true, Bool.not_eq_false, Decidable.not_not] at h); first | contradiction | (exfalso; omega) | skip)) | (apply v_buildSlice; (case hz => rfl); (case hi => rfl); (case hv => (simp only [List.map_cons, List.map_nil]; repeat (first | with_reducible exact evs_nil | (apply evs_cons; (case h1 => rfl))))); (case hp => (first | with_reducible exact pk_nil | (apply pk_cons; (case hc => rfl); (case hs => rfl); (case h => (first | with_reducible exact pk_nil | (apply pk_cons; (case hc => rfl); (case hs => rfl); (case h => (first | with_reducible exact pk_nil | (apply pk_cons; (case hc => rfl); (case hs => rfl); (case h => (with_reducible exact pk_nil)); (case he => (first | ((repeat (first | with_reducible exact ap_nil | apply ap_cons)); done) | rfl))) | rfl)); (case he => (first | ((repeat (first | with_reducible exact ap_nil | apply ap_cons)); done) | rfl))) | rfl)); (case he => (first | ((repeat (first | with_reducible exact ap_nil | apply ap_cons)); done) | rfl))) | rfl)); (case hb => rfl); (case hd => rfl); intro b) | fail)
    refine v_ret [] (outsA2 rfl rfl rfl) (by repeat (first | exact List.Sublist.refl _ | exact List.nil_sublist _ | apply List.Sublist.cons_cons | apply List.Sublist.cons | exact List.sublist_append_left _ _ | apply List.sublist_append_of_sublist_right)) ?_
    rw [e]
    refine ⟨rfl, _, ?_, Grow.ints (l := l.take (l.countP (· < n)) ++ [n] ++ l.drop (l.countP (· < n))) (by
      have : (l.take (l.countP (· < n)) ++ [n] ++ l.drop (l.countP (· < n))).length = l.length + 1 := by simp; omega
      rw [this]; exact hg) hG ?_⟩
    · rw [decide_eq_true (by simp; omega)]
    · intro x hx
      simp only [List.mem_append, List.mem_singleton] at hx
      rcases hx with (hx | hx) | hx
      · exact hwf x (List.mem_of_mem_take hx)
      · rw [hx]; exact hn
      · exact hwf x (List.mem_of_mem_drop hx)
  · have e : changedL l kind n = l.take (l.countP (· < n)) ++ l.drop (l.countP (· < n) + 1) := by
      unfold changedL
      rw [if_neg (by rintro ⟨h1, _⟩; omega), if_pos]
      exact ⟨by assumption, by assumption, by omega⟩
    refine v_call (μ1 := []) (μ2 := _) rfl (clone_s hs (by omega)) (List.Perm.refl _) rfl ?_
    rintro r G' μ1 - ⟨rfl, hlen, ⟨-, h0, -⟩ | ⟨b, cap, spare, rfl, rfl, h1, h2, h3⟩⟩
    · have := hok.1; omega
    have hcP : l.countP (· < n) < l.length := countP_lt (by assumption)
    have hn1 : 1 < l.length := by omega
    repeat' (first | apply v_seq | apply v_region | apply v_nil | apply v_skip | apply v_block | apply v_blk | (apply v_exit; (case hp => rfl)) | (apply v_take; (case hg => rfl)) | (apply v_pass; (case hg => rfl); (case hn => rfl); (case hd => rfl)) | (apply v_passN; (case hg => rfl); (case hn => rfl); (case hd => rfl)) | (apply v_pure; (case hop => first | (apply p_move <;> rfl) | (apply p_eqs <;> rfl) | (apply p_eqBs <;> rfl) | (apply p_eq <;> rfl) | (apply p_gt <;> rfl) | (apply p_le <;> rfl) | (apply p_ge <;> rfl) | (apply p_assign <;> rfl) | (apply p_pickT <;> rfl) | (apply p_pickF <;> rfl) | (apply p_not <;> rfl) | (apply p_lenSlice <;> rfl) | (apply p_extract0 <;> rfl) | (apply p_extract1 <;> rfl) | (apply p_extract2 <;> rfl) | (apply p_extract <;> rfl) | (apply p_add; (case hx => rfl); (case hy => rfl); (case h => omega)) | (apply p_lenString <;> rfl) | (apply p_eqB <;> rfl) | (apply p_eqNil <;> rfl) | (apply p_eqS <;> rfl) | (apply p_eqNilSlice <;> rfl)); (case hd => rfl)) | (apply v_condT; (case hc => rfl)) | (apply v_condF; (case hc => rfl)) | (apply v_cond; (case hc => rfl); all_goals (intro h; (try simp only [decide_eq_true_eq, decide_eq_false_iff_not, Bool.not_eq_true', Bool.not_eq_false', Option.isNone_iff_eq_none, beq_true, beq_false, beq_iff_eq, beq_eq_false_iff_ne, ne_eq, decide_eq_decide, Bool.not_eq_true, Bool.not_eq_false, Decidable.not_not] at h); first | contradiction | (exfalso; omega) | skip)) | (apply v_guardB; (case h1 => rfl); (case h2 => rfl); all_goals (intro h; (try simp only [decide_eq_true_eq, decide_eq_false_iff_not, Bool.not_eq_true', Bool.not_eq_false', Option.isNone_iff_eq_none, beq_true, beq_false, beq_iff_eq, beq_eq_false_iff_ne, ne_eq, decide_eq_decide, Bool.not_eq_true, Bool.not_eq_false, Decidable.not_not] at h); first | contradiction | (exfalso; omega) | skip)) | (apply v_buildSlice; (case hz => rfl); (case hi => rfl); (case hv => (simp only [List.map_cons, List.map_nil]; repeat (first | with_reducible exact evs_nil | (apply evs_cons; (case h1 => rfl))))); (case hp => (first | with_reducible exact pk_nil | (apply pk_cons; (case hc => rfl); (case hs => rfl); (case h => (first | with_reducible exact pk_nil | (apply pk_cons; (case hc => rfl); (case hs => rfl); (case h => (first | with_reducible exact pk_nil | (apply pk_cons; (case hc => rfl); (case hs => rfl); (case h => (with_reducible exact pk_nil)); (case he => (first | ((repeat (first | with_reducible exact ap_nil | apply ap_cons)); done) | rfl))) | rfl)); (case he => (first | ((repeat (first | with_reducible exact ap_nil | apply ap_cons)); done) | rfl))) | rfl)); (case he => (first | ((repeat (first | with_reducible exact ap_nil | apply ap_cons)); done) | rfl))) | rfl)); (case hb => rfl); (case hd => rfl); intro b) | fail)
    refine v_call (μ2 := []) rfl (delete_s (l := l) (i := l.countP (· < n)) (spare := spare) hcP h1 h2 (by rw [h3]; omega)) (List.Perm.refl _) rfl ?_
    rintro r G'' μ1 - ⟨rfl, hg⟩
    refine v_freeze (ν := μ1) (μ := []) ?_
    intro G1 hle hG
    repeat' (first | apply v_seq | apply v_region | apply v_nil | apply v_skip | apply v_block | apply v_blk | (apply v_exit; (case hp => rfl)) | (apply v_take; (case hg => rfl)) | (apply v_pass; (case hg => rfl); (case hn => rfl); (case hd => rfl)) | (apply v_passN; (case hg => rfl); (case hn => rfl); (case hd => rfl)) | (apply v_pure; (case hop => first | (apply p_move <;> rfl) | (apply p_eqs <;> rfl) | (apply p_eqBs <;> rfl) | (apply p_eq <;> rfl) | (apply p_gt <;> rfl) | (apply p_le <;> rfl) | (apply p_ge <;> rfl) | (apply p_assign <;> rfl) | (apply p_pickT <;> rfl) | (apply p_pickF <;> rfl) | (apply p_not <;> rfl) | (apply p_lenSlice <;> rfl) | (apply p_extract0 <;> rfl) | (apply p_extract1 <;> rfl) | (apply p_extract2 <;> rfl) | (apply p_extract <;> rfl) | (apply p_add; (case hx => rfl); (case hy => rfl); (case h => omega)) | (apply p_lenString <;> rfl) | (apply p_eqB <;> rfl) | (apply p_eqNil <;> rfl) | (apply p_eqS <;> rfl) | (apply p_eqNilSlice <;> rfl)); (case hd => rfl)) | (apply v_condT; (case hc => rfl)) | (apply v_condF; (case hc => rfl)) | (apply v_cond; (case hc => rfl); all_goals (intro h; (try simp only [decide_eq_true_eq, decide_eq_false_iff_not, Bool.not_eq_true', Bool.not_eq_false', Option.isNone_iff_eq_none, beq_true, beq_false, beq_iff_eq, beq_eq_false_iff_ne, ne_eq, decide_eq_decide, Bool.not_eq_true, Bool.not_eq_false, Decidable.not_not] at h); first | contradiction | (exfalso; omega) | skip)) | (apply v_guardB; (case h1 => rfl); (case h2 => rfl); all_goals (intro h; (try simp only [decide_eq_true_eq, decide_eq_false_iff_not, Bool.not_eq_true', Bool.not_eq_false', Option.isNone_iff_eq_none, beq_true, beq_false, beq_iff_eq, beq_eq_false_iff_ne, ne_eq, decide_eq_decide, Bool.not_eq_true, Bool.not_eq_false, Decidable.not_not] at h); first | contradiction | (exfalso; omega) | skip)) | (apply v_buildSlice; (case hz => rfl); (case hi => rfl); (case hv => (simp only [List.map_cons, List.map_nil]; repeat (first | with_reducible exact evs_nil | (apply evs_cons; (case h1 => rfl))))); (case hp => (first | with_reducible exact pk_nil | (apply pk_cons; (case hc => rfl); (case hs => rfl); (case h => (first | with_reducible exact pk_nil | (apply pk_cons; (case hc => rfl); (case hs => rfl); (case h => (first | with_reducible exact pk_nil | (apply pk_cons; (case hc => rfl); (case hs => rfl); (case h => (with_reducible exact pk_nil)); (case he => (first | ((repeat (first | with_reducible exact ap_nil | apply ap_cons)); done) | rfl))) | rfl)); (case he => (first | ((repeat (first | with_reducible exact ap_nil | apply ap_cons)); done) | rfl))) | rfl)); (case he => (first | ((repeat (first | with_reducible exact ap_nil | apply ap_cons)); done) | rfl))) | rfl)); (case hb => rfl); (case hd => rfl); intro b) | fail)
    refine v_ret [] (outsA2 rfl rfl rfl) (by repeat (first | exact List.Sublist.refl _ | exact List.nil_sublist _ | apply List.Sublist.cons_cons | apply List.Sublist.cons | exact List.sublist_append_left _ _ | apply List.sublist_append_of_sublist_right)) ?_
    rw [e]
    refine ⟨rfl, _, ?_, Grow.ints (l := l.take (l.countP (· < n)) ++ l.drop (l.countP (· < n) + 1)) (by
      have : (l.take (l.countP (· < n)) ++ l.drop (l.countP (· < n) + 1)).length = l.length - 1 := by simp; omega
      rw [this]; exact hg) hG ?_⟩
    · rw [decide_eq_true (by simp; omega)]
    · intro x hx
      simp only [List.mem_append] at hx
      rcases hx with hx | hx
      · exact hwf x (List.mem_of_mem_take hx)
      · exact hwf x (List.mem_of_mem_drop hx)
end Go.Proofs.Ytfckggkmiegokaa
