/-
  varint (layer 1), the second part: what bytes a number is read from: no more and no fewer than its own.
-/
import Derived.Test.YtfckggkmiegokaaDoorPackE
import Derived.Test.YtfckggkmiegokaaDoorVxScope
set_option linter.unusedSimpArgs false
set_option linter.unusedVariables false
namespace Go.Proofs.YtfckggkmiegokaaDoor
open Go.Vx Go.ChangeShapes Go.WideShapes Go.ChangeAt Go.RowKit
/-- A number read from bytes, k of which were read ahead; and what is left. -/
def dvk : Nat → List Int → Option (Int × List Int)
  | _, [] => none
  | k, c :: r => if (c = 0 ∧ 0 < k) ∨ 8 < k then none else if c < 128 then some (c, r) else (dvk (k + 1) r).map fun p => (c - 128 + 128 * p.1, p.2)
theorem dvk_nil (k : Nat) : dvk k [] = none := by unfold dvk; rfl
theorem dvk_cons (k : Nat) (c : Int) (r : List Int) : dvk k (c :: r) = if (c = 0 ∧ 0 < k) ∨ 8 < k then none else if c < 128 then some (c, r) else (dvk (k + 1) r).map fun p => (c - 128 + 128 * p.1, p.2) := by
  rw [dvk]
theorem pow128 (k : Nat) : (128 : Int) ^ (k + 1) = 128 * 128 ^ k := by rw [Int.pow_succ, Int.mul_comm]
theorem dvk_vb : ∀ (f k : Nat) (m : Int) (r : List Int), 8 ≤ f + k → k ≤ 8 → 0 ≤ m → m < 128 ^ (9 - k) → (0 < k → 0 < m) → dvk k (vb f m ++ r) = some (m, r)
  | 0, k, m, r, h1, h2, h3, h4, h5 => by
    have : k = 8 := by omega
    subst this
    have : m < 128 := by simpa using h4
    rw [vb, List.cons_append, List.nil_append, dvk_cons, if_neg (by omega), if_pos this]
  | f + 1, k, m, r, h1, h2, h3, h4, h5 => by
    rw [vb_succ]
    by_cases hm : m < 128
    · rw [if_pos hm, List.cons_append, List.nil_append, dvk_cons, if_neg (by omega), if_pos hm]
    · rw [if_neg hm, List.cons_append, dvk_cons, if_neg (by omega), if_neg (by omega)]
      have hk : k ≤ 7 := by
        by_cases hk : k = 8
        · subst hk
          have : m < 128 := by simpa using h4
          omega
        · omega
      have e : 9 - k = (9 - (k + 1)) + 1 := by omega
      rw [e, pow128] at h4
      rw [dvk_vb f (k + 1) (m / 128) r (by omega) (by omega) (by omega) (by omega) (by omega)]
      simp only [Option.map_some, Option.some.injEq, Prod.mk.injEq, and_true]
      omega
theorem vb_dvk : ∀ (r : List Int) (k : Nat) (m : Int) (r' : List Int), (∀ x ∈ r, 0 ≤ x ∧ x ≤ 255) → dvk k r = some (m, r') → k ≤ 8 ∧ 0 ≤ m ∧ m < 128 ^ (9 - k) ∧ (0 < k → 0 < m) ∧ ∀ f, 8 ≤ f + k → r = vb f m ++ r'
  | [], k, m, r', hw, h => by rw [dvk_nil] at h; cases h
  | c :: r, k, m, r', hw, h => by
    have hc := hw c (by simp)
    rw [dvk_cons] at h
    by_cases h1 : (c = 0 ∧ 0 < k) ∨ 8 < k
    · rw [if_pos h1] at h; cases h
    rw [if_neg h1] at h
    by_cases h2 : c < 128
    · rw [if_pos h2] at h
      cases h
      refine ⟨by omega, by omega, ?_, by omega, fun f hf => ?_⟩
      · have e : 9 - k = (8 - k) + 1 := by omega
        rw [e, pow128]
        have : (0 : Int) < 128 ^ (8 - k) := Int.pow_pos (by decide)
        omega
      · cases f with
        | zero => rfl
        | succ f => rw [vb_succ, if_pos h2]; rfl
    · rw [if_neg h2] at h
      obtain ⟨p, hp, he⟩ := Option.map_eq_some_iff.1 h
      obtain ⟨m', r2⟩ := p
      cases he
      obtain ⟨i1, i2, i3, i4, i5⟩ := vb_dvk r (k + 1) m' r2 (fun x hx => hw x (by simp [hx])) hp
      have := i4 (by omega)
      refine ⟨by omega, by omega, ?_, by omega, fun f hf => ?_⟩
      · have e : 9 - k = (9 - (k + 1)) + 1 := by omega
        rw [e, pow128]
        omega
      · cases f with
        | zero => omega
        | succ f =>
          have e1 : (c - 128 + 128 * m') % 128 + 128 = c := by omega
          have e2 : (c - 128 + 128 * m') / 128 = m' := by omega
          simp only at *
          rw [vb_succ, if_neg (by omega), e1, e2, List.cons_append, ← i5 f (by omega)]
abbrev top63 : Int := 9223372036854775807
theorem p63 : (128 : Int) ^ 9 = 9223372036854775808 := by decide
/-- A number's bytes lead back to it. -/
theorem dvk_vbytes {m : Int} (r : List Int) (h0 : 0 ≤ m) (h1 : m ≤ 9223372036854775807) : dvk 0 (vbytes m ++ r) = some (m, r) := by
  have e : max m 0 = m := by omega
  rw [vbytes, e]
  refine dvk_vb 10 0 m r (by omega) (by omega) h0 ?_ (by omega)
  rw [show 9 - 0 = 9 from rfl, p63]
  omega
theorem vbytes_dvk {r : List Int} {m : Int} {r' : List Int} (hw : ∀ x ∈ r, 0 ≤ x ∧ x ≤ 255) (h : dvk 0 r = some (m, r')) : 0 ≤ m ∧ m ≤ 9223372036854775807 ∧ r = vbytes m ++ r' := by
  obtain ⟨-, h0, h1, -, h2⟩ := vb_dvk r 0 m r' hw h
  rw [show 9 - 0 = 9 from rfl, p63] at h1
  have e : max m 0 = m := by omega
  refine ⟨h0, by omega, ?_⟩
  rw [vbytes, e]
  exact h2 10 (by omega)
end Go.Proofs.YtfckggkmiegokaaDoor
