/-
  conf (layer 11), the sixth part: both know the same change.
-/
import Derived.Test.YtfckggkmiegokaaConfE
set_option linter.unusedSimpArgs false
set_option linter.unusedVariables false
namespace Go.Proofs.Ytfckggkmiegokaa
open Go.Vx Go.ChangeShapes Go.WideShapes Go.ChangeAt Go.RowKit
theorem sorted_ext : ∀ {a b : List Int}, a.Pairwise (· < ·) → b.Pairwise (· < ·) → (∀ x, x ∈ a ↔ x ∈ b) → a = b
  | [], [], _, _, _ => rfl
  | [], y :: b, _, _, h => by have := (h y).2 (by simp); simp at this
  | x :: a, [], _, _, h => by have := (h x).1 (by simp); simp at this
  | x :: a, y :: b, ha, hb, h => by
    rw [List.pairwise_cons] at ha hb
    have hxy : x = y := by
      have h1 := (h x).1 (by simp)
      have h2 := (h y).2 (by simp)
      simp only [List.mem_cons] at h1 h2
      rcases h1 with h1 | h1
      · exact h1
      · rcases h2 with h2 | h2
        · exact h2.symm
        · have := hb.1 x h1
          have := ha.1 y h2
          omega
    subst hxy
    congr 1
    refine sorted_ext ha.2 hb.2 fun z => ?_
    have hz := h z
    simp only [List.mem_cons] at hz
    constructor
    · intro hm
      have := ha.1 z hm
      rcases hz.1 (.inr hm) with e | e
      · omega
      · exact e
    · intro hm
      have := hb.1 z hm
      rcases hz.2 (.inr hm) with e | e
      · omega
      · exact e
theorem countP_zero {l : List Int} {n : Int} (h : ∀ x ∈ l, n ≤ x) : l.countP (· < n) = 0 := by
  rw [List.countP_eq_zero]
  intro x hx
  have := h x hx
  simp; omega
theorem insert_sorted {n : Int} : ∀ {l : List Int}, l.Pairwise (· < ·) → n ∉ l → (l.take (l.countP (· < n)) ++ [n] ++ l.drop (l.countP (· < n))).Pairwise (· < ·)
  | [], _, _ => by simp
  | a :: l, h, hn => by
    rw [List.pairwise_cons] at h
    simp only [List.mem_cons, not_or] at hn
    by_cases ha : a < n
    · have ih := insert_sorted h.2 hn.2
      rw [List.countP_cons_of_pos (by simpa using ha), List.take_succ_cons, List.drop_succ_cons]
      simp only [List.cons_append]
      rw [List.pairwise_cons]
      refine ⟨fun x hx => ?_, ih⟩
      simp only [List.mem_append, List.mem_singleton] at hx
      rcases hx with (hx | hx) | hx
      · exact h.1 x (List.mem_of_mem_take hx)
      · omega
      · exact h.1 x (List.mem_of_mem_drop hx)
    · have hz : (a :: l).countP (· < n) = 0 := countP_zero (by
        intro x hx
        simp only [List.mem_cons] at hx
        rcases hx with hx | hx
        · omega
        · have := h.1 x hx; omega)
      rw [hz]
      simp only [List.take_zero, List.drop_zero, List.nil_append, List.singleton_append]
      rw [List.pairwise_cons, List.pairwise_cons]
      refine ⟨fun x hx => ?_, h⟩
      simp only [List.mem_cons] at hx
      rcases hx with hx | hx
      · omega
      · have := h.1 x hx; omega
theorem delete_filter {n : Int} : ∀ {l : List Int}, l.Pairwise (· < ·) → n ∈ l → l.take (l.countP (· < n)) ++ l.drop (l.countP (· < n) + 1) = l.filter fun m => decide (m ≠ n)
  | [], _, hn => by simp at hn
  | a :: l, h, hn => by
    rw [List.pairwise_cons] at h
    simp only [List.mem_cons] at hn
    by_cases ha : a < n
    · have hn' : n ∈ l := by rcases hn with e | e; · omega
                             · exact e
      have ih := delete_filter h.2 hn'
      rw [List.countP_cons_of_pos (by simpa using ha), List.take_succ_cons, List.drop_succ_cons, List.cons_append, ih, List.filter_cons_of_pos (by simp; omega)]
    · have hz : (a :: l).countP (· < n) = 0 := countP_zero (by
        intro x hx
        simp only [List.mem_cons] at hx
        rcases hx with hx | hx
        · omega
        · have := h.1 x hx; omega)
      have hna : a = n := by
        rcases hn with e | e
        · exact e.symm
        · have := h.1 n e; omega
      rw [hz, List.filter_cons_of_neg (by simp [hna])]
      simp only [List.take_zero, List.nil_append, Nat.zero_add, List.drop_succ_cons, List.drop_zero]
      refine (List.filter_eq_self.2 fun x hx => ?_).symm
      have := h.1 x hx
      simp; omega
theorem nine_sorted : ∀ k, (nine k).Pairwise (· < ·)
  | 0 => by simp [nine]
  | k + 1 => by
    rw [nine_succ, List.pairwise_append]
    refine ⟨nine_sorted k, by simp, fun a ha b hb => ?_⟩
    simp only [nine, List.mem_map, List.mem_range] at ha
    obtain ⟨j, hj, rfl⟩ := ha
    simp at hb
    omega
theorem mem_nine {x : Int} : x ∈ nine 9 ↔ 1 ≤ x ∧ x ≤ 9 := by
  simp only [nine, List.mem_map, List.mem_range]
  exact ⟨by rintro ⟨j, hj, rfl⟩; omega, fun h => ⟨(x - 1).toNat, by omega, by omega⟩⟩
theorem MemOK.range {l : List Int} (h : MemOK l) {x : Int} (hx : x ∈ l) : 1 ≤ x ∧ x ≤ 9 := by
  obtain ⟨i, hi, rfl⟩ := List.getElem_of_mem hx
  have := h.2 i hi
  omega
theorem refChanged_eq {l : List Int} (kind n : Int) (hok : MemOK l) : refChangedL l kind n = changedL l kind n := by
  have hin : ∀ x, inB l x = l.contains x := fun x => by simp [inB]
  unfold refChangedL changedL
  by_cases h7 : kind = 7 ∧ 1 ≤ n ∧ n ≤ 9 ∧ inB l n = false
  · have hn : n ∉ l := by simpa [inB] using h7.2.2.2
    rw [if_pos h7, if_pos ⟨h7.1, by rw [← hin]; exact h7.2.2.2, h7.2.1, h7.2.2.1⟩]
    refine sorted_ext ((nine_sorted 9).filter _) (insert_sorted hok.sorted hn) fun x => ?_
    simp only [List.mem_filter, mem_nine, Bool.or_eq_true, decide_eq_true_eq, inB, List.mem_append, List.mem_singleton]
    have ht : x ∈ l ↔ x ∈ l.take (l.countP (· < n)) ∨ x ∈ l.drop (l.countP (· < n)) := by
      rw [← List.mem_append, List.take_append_drop]
    constructor
    · rintro ⟨_, h | h⟩
      · exact .inl (.inr h)
      · rcases ht.1 h with h | h
        · exact .inl (.inl h)
        · exact .inr h
    · rintro ((h | h) | h)
      · have hm := ht.2 (.inl h); exact ⟨hok.range hm, .inr hm⟩
      · exact ⟨by omega, .inl h⟩
      · have hm := ht.2 (.inr h); exact ⟨hok.range hm, .inr hm⟩
  · have h7' : ¬ (kind = 7 ∧ l.contains n = false ∧ 1 ≤ n ∧ n ≤ 9) := by rintro ⟨a, b, c, d⟩; exact h7 ⟨a, c, d, by rw [hin]; exact b⟩
    rw [if_neg h7, if_neg h7']
    by_cases h8 : kind = 8 ∧ inB l n = true
    · have hn : n ∈ l := by simpa [inB] using h8.2
      rw [if_pos h8, ← delete_filter hok.sorted hn]
      by_cases h1 : 1 < l.length
      · rw [if_pos ⟨h8.1, by rw [← hin]; exact h8.2, h1⟩]
      · rw [if_neg (fun h => h1 h.2.2)]
        have := countP_lt (l := l) (n := n) (by simpa using hn)
        apply List.eq_nil_of_length_eq_zero
        rw [List.length_append, List.length_take, List.length_drop]
        omega
    · rw [if_neg h8, if_neg (by rintro ⟨a, b, c⟩; exact h8 ⟨a, by rw [hin]; exact b⟩)]
end Go.Proofs.Ytfckggkmiegokaa
