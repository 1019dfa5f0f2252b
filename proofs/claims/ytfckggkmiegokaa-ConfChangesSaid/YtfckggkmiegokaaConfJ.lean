/-
  conf (layer 11), the tenth part: the plain laws of changed and trimmed confs.
-/
import Derived.Test.YtfckggkmiegokaaConfI
set_option linter.unusedSimpArgs false
set_option linter.unusedVariables false
namespace Go.Proofs.Ytfckggkmiegokaa
open Go.Vx Go.ChangeShapes Go.WideShapes Go.ChangeAt Go.RowKit
theorem memOK_of {m : List Int} (h0 : 0 < m.length) (hs : m.Pairwise (· < ·)) (hr : ∀ x ∈ m, 1 ≤ x ∧ x ≤ 9) : MemOK m := by
  refine ⟨h0, fun k hk => ?_⟩
  obtain ⟨h1, h2⟩ := hr _ (List.getElem_mem hk)
  refine ⟨h1, h2, fun h => ?_⟩
  rw [List.pairwise_iff_getElem] at hs
  exact hs (k - 1) k (by omega) hk (by omega)
theorem changedL_ok {l : List Int} {kind n : Int} (hok : MemOK l) (h : (changedL l kind n).length ≠ 0) : MemOK (changedL l kind n) := by
  unfold changedL at h ⊢
  by_cases h7 : kind = 7 ∧ l.contains n = false ∧ 1 ≤ n ∧ n ≤ 9
  · rw [if_pos h7]
    have hn : n ∉ l := by simpa using h7.2.1
    refine memOK_of (by simp; omega) (insert_sorted hok.sorted hn) fun x hx => ?_
    simp only [List.mem_append, List.mem_singleton] at hx
    rcases hx with (hx | hx) | hx
    · exact hok.range (List.mem_of_mem_take hx)
    · omega
    · exact hok.range (List.mem_of_mem_drop hx)
  · rw [if_neg h7] at h ⊢
    by_cases h8 : kind = 8 ∧ l.contains n = true ∧ 1 < l.length
    · rw [if_pos h8] at h ⊢
      have hn : n ∈ l := by simpa using h8.2.1
      rw [delete_filter hok.sorted hn] at h ⊢
      exact memOK_of (by omega) (hok.sorted.filter _) fun x hx => hok.range (List.mem_filter.1 hx).1
    · rw [if_neg h8] at h; simp at h
theorem ConfOK.rises {l : List Co} (h : ConfOK l) : l.Pairwise (fun a b => a.1 < b.1) := by
  rw [List.pairwise_iff_getElem]
  have key : ∀ (d i : Nat) (hi : i + d + 1 < l.length), l[i].1 < l[i + d + 1].1 := by
    intro d
    induction d with
    | zero =>
      intro i hi
      have := (h.2 (i + 1) (by omega)).2.2 (by omega)
      simpa using this
    | succ d ih =>
      intro i hi
      have h1 := ih i (by omega)
      have h2 := (h.2 (i + (d + 1) + 1) hi).2.2 (by omega)
      have h3 : l[i + (d + 1) + 1 - 1] = l[i + d + 1] := by congr 1
      rw [h3] at h2
      omega
  intro i j hi hj hij
  have := key (j - i - 1) i (by omega)
  have h3 : l[i + (j - i - 1) + 1]'(by omega) = l[j] := by congr 1; omega
  rw [h3] at this
  exact this
theorem ConfOK.of {l : List Co} (h0 : ∃ h : 0 < l.length, l[0].1 = 1) (hr : l.Pairwise (fun a b => a.1 < b.1)) (hm : ∀ c ∈ l, MemOK c.2 ∧ c.1 ≤ 4294967296) : ConfOK l := by
  refine ⟨h0, fun i hi => ?_⟩
  obtain ⟨h1, h2⟩ := hm _ (List.getElem_mem hi)
  refine ⟨h1, h2, fun h => ?_⟩
  rw [List.pairwise_iff_getElem] at hr
  exact hr (i - 1) i (by omega) hi (by omega)
theorem ConfOK.mems {l : List Co} (h : ConfOK l) : ∀ c ∈ l, MemOK c.2 ∧ c.1 ≤ 4294967296 := fun c hc => by
  obtain ⟨i, hi, rfl⟩ := List.getElem_of_mem hc
  have := h.2 i hi
  exact ⟨this.1, this.2.1⟩
theorem lastC_mem {l : List Co} (h : 0 < l.length) : lastC l ∈ l := by
  rw [lastC_eq h]; exact List.getElem_mem _
theorem split_last {l : List Co} (h : 0 < l.length) : l = l.take (l.length - 1) ++ [lastC l] := by
  have h1 : l.take (l.length - 1 + 1) = l := by rw [List.take_of_length_le (by omega)]
  conv => lhs; rw [← h1, List.take_succ_eq_append_getElem (by omega)]
  rw [lastC_eq h]
theorem ConfOK.below {l : List Co} (h : ConfOK l) : ∀ c ∈ l.take (l.length - 1), c.1 < (lastC l).1 := by
  have hr := h.rises
  rw [split_last h.1.1, List.pairwise_append] at hr
  exact fun c hc => hr.2.2 c hc _ (by simp)
theorem refFrom_eq (l : List Co) (x : Int) : refFrom l x = fromOf l x := by
  unfold refFrom fromOf
  split <;> omega
theorem refChangeL_eq {l : List Co} {x kind n : Int} (hok : ConfOK l) (h : (changedL (lastC l).2 kind n).length ≠ 0) : refChangeL l x kind n = changeL l x kind n := by
  have hl := (hok.mems (lastC l) (lastC_mem hok.1.1)).1
  have e := refChanged_eq kind n hl
  unfold refChangeL changeL
  rw [e, if_neg h, refFrom_eq]
  congr 1
  have hb := hok.below
  have hFd : fromOf l x = max (x + 4) (lastC l).1 := rfl
  generalize fromOf l x = F at *
  split
  · rename_i hF
    conv => lhs; rw [split_last hok.1.1, List.filter_append]
    rw [List.filter_eq_self.2 (fun c hc => by have := hb c hc; simp; omega)]
    simp [hF]
  · rename_i hF
    rw [List.filter_eq_self]
    intro c hc
    rw [split_last hok.1.1] at hc
    have hlast : (lastC l).1 < F := by omega
    simp only [List.mem_append, List.mem_singleton] at hc
    rcases hc with hc | hc
    · have := hb c hc; simp; omega
    · rw [hc]; simpa using hlast
theorem changeL_ok {l : List Co} {x kind n : Int} (hok : ConfOK l) (hx : 1 ≤ x ∧ x ≤ 4294967292) (h : (changedL (lastC l).2 kind n).length ≠ 0) : ConfOK (changeL l x kind n) := by
  have hl := hok.mems (lastC l) (lastC_mem hok.1.1)
  have hm := changedL_ok hl.1 h
  have hb := hok.below
  have h0 := hok.1.1
  have h1 := hok.1.2
  have hF : fromOf l x ≤ 4294967296 ∧ 5 ≤ fromOf l x := by unfold fromOf; omega
  unfold changeL
  split
  · rename_i he
    have hlen : 1 < l.length := by
      apply Classical.byContradiction
      intro hc
      have : lastC l = l[0] := by rw [lastC_eq h0]; congr 1; omega
      rw [this, h1] at he
      omega
    refine ConfOK.of ⟨by simp, ?_⟩ ?_ ?_
    · rw [List.getElem_append_left (by simp; omega), List.getElem_take]; exact h1
    · rw [List.pairwise_append]
      refine ⟨hok.rises.sublist (List.take_sublist _ _), by simp, fun a ha b hb' => ?_⟩
      simp at hb'
      subst hb'
      have := hb a ha
      simp only; omega
    · intro c hc
      simp only [List.mem_append, List.mem_singleton] at hc
      rcases hc with hc | rfl
      · exact hok.mems c (List.mem_of_mem_take hc)
      · exact ⟨hm, hF.1⟩
  · rename_i he
    have hlast : (lastC l).1 < fromOf l x := by unfold fromOf at he ⊢; omega
    refine ConfOK.of ⟨by simp, ?_⟩ ?_ ?_
    · rw [List.getElem_append_left h0]; exact h1
    · rw [List.pairwise_append]
      refine ⟨hok.rises, by simp, fun a ha b hb' => ?_⟩
      simp at hb'
      subst hb'
      rw [split_last h0] at ha
      simp only [List.mem_append, List.mem_singleton] at ha
      rcases ha with ha | rfl
      · have := hb a ha
        simp only; omega
      · exact hlast
    · intro c hc
      simp only [List.mem_append, List.mem_singleton] at hc
      rcases hc with hc | rfl
      · exact hok.mems c hc
      · exact ⟨hm, hF.1⟩
theorem placeK_congr {a b : List Co} {y : Int} : ∀ {k : Nat}, (∀ i, i < k → a.getD i (0, []) = b.getD i (0, [])) → placeK a y k = placeK b y k
  | 0, _ => rfl
  | k + 1, h => by rw [placeK, placeK, h k (by omega), placeK_congr fun i hi => h i (by omega)]
theorem atK_congr {a b : List Co} {y : Int} {k : Nat} (h : ∀ i, i < k → a.getD i (0, []) = b.getD i (0, [])) : atK a y k = atK b y k := by
  have h1 := placeK_le a y k
  unfold atK
  rw [← placeK_congr h]
  split
  · rfl
  · rw [h _ (by omega)]
theorem atK_append {p : List Co} {c : Co} {y : Int} (h : ¬ c.1 ≤ y) : atK (p ++ [c]) y (p ++ [c]).length = atK p y p.length := by
  have e : (p ++ [c])[p.length]'(by simp) = c := by simp
  rw [List.length_append, List.length_singleton, atK_neg (l := p ++ [c]) (k := p.length) (by simp) (by rw [e]; exact h)]
  exact atK_congr fun i hi => by simp [List.getD_eq_getElem?_getD, List.getElem?_append_left hi]
theorem changeL_at {l : List Co} {x kind n y : Int} (hok : ConfOK l) (hy : y < x + 4) : atK (changeL l x kind n) y (changeL l x kind n).length = atK l y l.length := by
  have hF : ¬ fromOf l x ≤ y := by unfold fromOf; omega
  unfold changeL
  rw [atK_append hF]
  split
  · rename_i he
    conv => rhs; rw [split_last hok.1.1]
    rw [atK_append (by omega)]
  · rfl
/-! ### Trimmed -/
theorem placeK_spec {l : List Co} {x : Int} : ∀ {k : Nat} (hk : k ≤ l.length), (0 ≤ placeK l x k → ∃ h : (placeK l x k).toNat < l.length, l[(placeK l x k).toNat].1 ≤ x) ∧ ∀ i (h : i < k), placeK l x k < i → ¬ l[i].1 ≤ x
  | 0, _ => by simp [placeK]
  | k + 1, hk => by
    have ih := placeK_spec (l := l) (x := x) (k := k) (by omega)
    rw [placeK_succ (by omega)]
    split
    · rename_i h
      refine ⟨fun _ => ⟨by omega, by simpa using h⟩, fun i hi hlt => by omega⟩
    · rename_i h
      refine ⟨ih.1, fun i hi hlt => ?_⟩
      by_cases hik : i = k
      · subst hik; exact h
      · exact ih.2 i (by omega) hlt
theorem trimL_eq {l : List Co} {p : Nat} {x : Int} (hp : placeK l x l.length = (p : Int)) (hlt : p < l.length) : trimL l x = (1, l[p].2) :: l.drop (p + 1) := by
  unfold trimL
  rw [hp, Int.toNat_natCast, List.drop_eq_getElem_cons hlt]
theorem trim_ok {l : List Co} {x : Int} (hok : ConfOK l) (hx : 1 ≤ x) : ∃ (p : Nat) (hlt : p < l.length), placeK l x l.length = (p : Int) ∧ trimL l x = (1, l[p].2) :: l.drop (p + 1) ∧ ConfOK (trimL l x) ∧ (trimL l x).length ≤ l.length ∧ (∀ h : 1 < (trimL l x).length, x < (trimL l x)[1].1) ∧
    ∀ y, x ≤ y → atK (trimL l x) y (trimL l x).length = atK l y l.length := by
  have h0 := hok.1.1
  have h1 := hok.1.2
  have hn := placeK_nonneg h0 (x := x) (by omega) l.length h0 (Nat.le_refl _)
  have hle := placeK_le l x l.length
  obtain ⟨p, hp⟩ := Int.eq_ofNat_of_zero_le hn
  have hlt : p < l.length := by omega
  obtain ⟨hs1, hs2⟩ := placeK_spec (l := l) (x := x) (Nat.le_refl l.length)
  have hpx : l[p].1 ≤ x := by
    obtain ⟨_, h⟩ := hs1 hn
    have e : (placeK l x l.length).toNat = p := by omega
    simpa [e] using h
  have ht := trimL_eq hp hlt
  have hrise := hok.rises
  rw [List.pairwise_iff_getElem] at hrise
  have h1p : 1 ≤ l[p].1 := by
    by_cases hz : p = 0
    · subst hz; omega
    · have := hrise 0 p h0 hlt (by omega); omega
  refine ⟨p, hlt, hp, ht, ?_, ?_, ?_, ?_⟩
  · rw [ht]
    refine ConfOK.of ⟨by simp, rfl⟩ ?_ ?_
    · rw [List.pairwise_cons]
      refine ⟨fun c hc => ?_, hok.rises.sublist (List.drop_sublist _ _)⟩
      obtain ⟨i, hi, rfl⟩ := List.getElem_of_mem hc
      rw [List.getElem_drop]
      have := hrise p (p + 1 + i) hlt (by simp at hi; omega) (by omega)
      simp only; omega
    · intro c hc
      simp only [List.mem_cons] at hc
      rcases hc with rfl | hc
      · exact ⟨(hok.mems _ (List.getElem_mem hlt)).1, by simp⟩
      · exact hok.mems c (List.mem_of_mem_drop hc)
  · rw [ht]; simp; omega
  · rw [ht]
    intro h
    have hi : p + 1 < l.length := by simp at h; omega
    have e : ((1, l[p].2) :: l.drop (p + 1))[1]'h = l[p + 1] := by simp
    rw [e]
    have := hs2 (p + 1) hi (by omega)
    omega
  · intro y hy
    have key : ∀ j, p + 1 + j ≤ l.length → atK (trimL l x) y (1 + j) = atK l y (p + 1 + j) := by
      intro j
      induction j with
      | zero =>
        intro hj
        rw [ht, atK_pos (l := (1, l[p].2) :: l.drop (p + 1)) (k := 0) (by simp) (by simp; omega), atK_pos hlt (by omega)]
        rfl
      | succ j ih =>
        intro hj
        have hi : p + 1 + j < l.length := by omega
        have hi' : 1 + j < (trimL l x).length := by rw [ht]; simp; omega
        have e : (trimL l x)[1 + j]'hi' = l[p + 1 + j] := by
          simp only [ht]
          rw [List.getElem_cons, dif_neg (by omega), List.getElem_drop]
          congr 1; omega
        by_cases hc : l[p + 1 + j].1 ≤ y
        · rw [show 1 + (j + 1) = (1 + j) + 1 by omega, show p + 1 + (j + 1) = (p + 1 + j) + 1 by omega, atK_pos hi (by omega), atK_pos hi' (by rw [e]; exact hc), e]
        · rw [show 1 + (j + 1) = (1 + j) + 1 by omega, show p + 1 + (j + 1) = (p + 1 + j) + 1 by omega, atK_neg hi hc, atK_neg hi' (by rw [e]; exact hc)]
          exact ih (by omega)
    have hl : (trimL l x).length = 1 + (l.length - (p + 1)) := by rw [ht]; simp; omega
    rw [hl, key _ (by omega)]
    congr 1; omega
end Go.Proofs.Ytfckggkmiegokaa
