/-
  Texts (layer 5), the first part: runes, in plain Lean: the model's decoder, and the reference's.
-/
import Derived.Test.YtfckggkmiegokaaDoorVxTypes
set_option linter.unusedSimpArgs false
set_option linter.unusedVariables false
namespace Go.Proofs.YtfckggkmiegokaaDoor
open Go.Vx Go.ChangeShapes Go.WideShapes Go.ChangeAt Go.RowKit
/-- What a rune's bytes come to: v, and k bytes more from place i on. -/
def acc (s : ByteArray) (i v : Nat) : Nat → Nat
  | 0 => v
  | k + 1 => 64 * acc s i v k + byt s (i + (k + 1)) - 128
def contB (s : ByteArray) (i : Nat) : Nat → Bool
  | 0 => true
  | k + 1 => contB s i k && (decide (128 ≤ byt s (i + (k + 1))) && decide (byt s (i + (k + 1)) ≤ 191))
def szFin (s : ByteArray) (i m low v : Nat) : Nat × Nat :=
  if s.size < i + (m + 1) then (0, 0) else if contB s i m = false then (0, 0)
  else if acc s i v m < low ∨ 1114111 < acc s i v m ∨ (55296 ≤ acc s i v m ∧ acc s i v m ≤ 57343) then (0, 0) else (m + 1, acc s i v m)
theorem szFin_short {s : ByteArray} {i m low v : Nat} (h : s.size < i + (m + 1)) : szFin s i m low v = (0, 0) := by unfold szFin; rw [if_pos h]
theorem szFin_cont {s : ByteArray} {i m low v : Nat} (h : contB s i m = false) : szFin s i m low v = (0, 0) := by
  unfold szFin
  rw [if_pos h]
  split <;> rfl
theorem szFin_low {s : ByteArray} {i m low v : Nat} (h : acc s i v m < low ∨ 1114111 < acc s i v m ∨ (55296 ≤ acc s i v m ∧ acc s i v m ≤ 57343)) : szFin s i m low v = (0, 0) := by
  unfold szFin
  rw [if_pos h]
  split
  · rfl
  · split <;> rfl
theorem szFin_ok {s : ByteArray} {i m low v : Nat} (h0 : ¬ s.size < i + (m + 1)) (h1 : contB s i m = true) (h : ¬ (acc s i v m < low ∨ 1114111 < acc s i v m ∨ (55296 ≤ acc s i v m ∧ acc s i v m ≤ 57343))) : szFin s i m low v = (m + 1, acc s i v m) := by
  unfold szFin
  rw [if_neg h0, if_neg (by rw [h1]; simp), if_neg h]
theorem acc1 (s : ByteArray) (i v : Nat) : acc s i v 1 = 64 * v + byt s (i + 1) - 128 := rfl
theorem acc2 (s : ByteArray) (i v : Nat) : acc s i v 2 = 64 * (64 * v + byt s (i + 1) - 128) + byt s (i + 2) - 128 := rfl
theorem acc3 (s : ByteArray) (i v : Nat) : acc s i v 3 = 64 * (64 * (64 * v + byt s (i + 1) - 128) + byt s (i + 2) - 128) + byt s (i + 3) - 128 := rfl
theorem cont1 {s : ByteArray} {i : Nat} : contB s i 1 = true ↔ (128 ≤ byt s (i + 1) ∧ byt s (i + 1) ≤ 191) := by
  show (contB s i 0 && (decide (128 ≤ byt s (i + 1)) && decide (byt s (i + 1) ≤ 191))) = true ↔ _
  simp [contB]
theorem cont2 {s : ByteArray} {i : Nat} : contB s i 2 = true ↔ (128 ≤ byt s (i + 1) ∧ byt s (i + 1) ≤ 191) ∧ (128 ≤ byt s (i + 2) ∧ byt s (i + 2) ≤ 191) := by
  show (contB s i 1 && (decide (128 ≤ byt s (i + 2)) && decide (byt s (i + 2) ≤ 191))) = true ↔ _
  rw [Bool.and_eq_true, cont1]; simp
theorem cont3 {s : ByteArray} {i : Nat} : contB s i 3 = true ↔ ((128 ≤ byt s (i + 1) ∧ byt s (i + 1) ≤ 191) ∧ (128 ≤ byt s (i + 2) ∧ byt s (i + 2) ≤ 191)) ∧ (128 ≤ byt s (i + 3) ∧ byt s (i + 3) ≤ 191) := by
  show (contB s i 2 && (decide (128 ≤ byt s (i + 3)) && decide (byt s (i + 3) ≤ 191))) = true ↔ _
  rw [Bool.and_eq_true, cont2]; simp
/-- The reference's rune at a place: its size (0: there is none), and the rune. -/
def szR (s : ByteArray) (i : Nat) : Nat × Nat :=
  if byt s i < 128 then (1, byt s i)
  else if 194 ≤ byt s i ∧ byt s i ≤ 223 then szFin s i 1 128 (byt s i - 192)
  else if 224 ≤ byt s i ∧ byt s i ≤ 239 then szFin s i 2 2048 (byt s i - 224)
  else if 240 ≤ byt s i ∧ byt s i ≤ 244 then szFin s i 3 65536 (byt s i - 240)
  else (0, 0)
theorem decode_byt (s : ByteArray) (i : Nat) : Utf8.decode s i =
    (if byt s i < 0x80 then (byt s i, 1)
    else if byt s i / 32 = 6 ∧ (i + 1 < s.size ∧ byt s (i + 1) / 64 = 2) then
      (if (byt s i % 32) * 64 + byt s (i + 1) % 64 ≥ 0x80 then ((byt s i % 32) * 64 + byt s (i + 1) % 64, 2) else (65533, 1))
    else if byt s i / 16 = 14 ∧ (i + 1 < s.size ∧ byt s (i + 1) / 64 = 2) ∧ (i + 2 < s.size ∧ byt s (i + 2) / 64 = 2) then
      (if (byt s i % 16) * 4096 + (byt s (i + 1) % 64) * 64 + byt s (i + 2) % 64 ≥ 0x800 ∧ Utf8.valid ((byt s i % 16) * 4096 + (byt s (i + 1) % 64) * 64 + byt s (i + 2) % 64 : Nat) = true then ((byt s i % 16) * 4096 + (byt s (i + 1) % 64) * 64 + byt s (i + 2) % 64, 3) else (65533, 1))
    else if byt s i / 8 = 30 ∧ (i + 1 < s.size ∧ byt s (i + 1) / 64 = 2) ∧ (i + 2 < s.size ∧ byt s (i + 2) / 64 = 2) ∧ (i + 3 < s.size ∧ byt s (i + 3) / 64 = 2) then
      (if (byt s i % 8) * 262144 + (byt s (i + 1) % 64) * 4096 + (byt s (i + 2) % 64) * 64 + byt s (i + 3) % 64 ≥ 0x10000 ∧ Utf8.valid ((byt s i % 8) * 262144 + (byt s (i + 1) % 64) * 4096 + (byt s (i + 2) % 64) * 64 + byt s (i + 3) % 64 : Nat) = true then ((byt s i % 8) * 262144 + (byt s (i + 1) % 64) * 4096 + (byt s (i + 2) % 64) * 64 + byt s (i + 3) % 64, 4) else (65533, 1))
    else (65533, 1)) := by
  unfold Utf8.decode byt
  simp only [Nat.add_zero, Bool.and_eq_true, decide_eq_true_eq, beq_iff_eq, Utf8.runeError, and_assoc]
theorem valid_iff (c : Nat) : Utf8.valid (c : Nat) = true ↔ c < 55296 ∨ (57344 ≤ c ∧ c ≤ 1114111) := by
  unfold Utf8.valid
  simp only [Bool.or_eq_true, Bool.and_eq_true, decide_eq_true_eq]
  omega
theorem decode_of_sz (s : ByteArray) (i : Nat) (h : i < s.size) : Utf8.decode s i = (if (szR s i).1 = 0 then (65533, 1) else ((szR s i).2, (szR s i).1)) := by
  have h0 := byt_lt s i
  have h1 := byt_lt s (i + 1)
  have h2 := byt_lt s (i + 2)
  have h3 := byt_lt s (i + 3)
  rw [decode_byt]
  unfold szR
  by_cases c0 : byt s i < 128
  · rw [if_pos c0, if_pos c0]; rfl
  rw [if_neg c0, if_neg c0]
  by_cases c1 : 194 ≤ byt s i ∧ byt s i ≤ 223
  · rw [if_pos c1]
    by_cases z : s.size < i + (1 + 1)
    · rw [szFin_short z, if_neg (show ¬ (byt s i / 32 = 6 ∧ (i + 1 < s.size ∧ byt s (i + 1) / 64 = 2)) by omega), if_neg (show ¬ (byt s i / 16 = 14 ∧ (i + 1 < s.size ∧ byt s (i + 1) / 64 = 2) ∧ (i + 2 < s.size ∧ byt s (i + 2) / 64 = 2)) by omega), if_neg (show ¬ (byt s i / 8 = 30 ∧ (i + 1 < s.size ∧ byt s (i + 1) / 64 = 2) ∧ (i + 2 < s.size ∧ byt s (i + 2) / 64 = 2) ∧ (i + 3 < s.size ∧ byt s (i + 3) / 64 = 2)) by omega)]; rfl
    by_cases d1 : contB s i 1 = true
    · have d2 := cont1.1 d1
      have ea : acc s i (byt s i - 192) 1 = (byt s i % 32) * 64 + byt s (i + 1) % 64 := by rw [acc1]; omega
      rw [if_pos (show byt s i / 32 = 6 ∧ (i + 1 < s.size ∧ byt s (i + 1) / 64 = 2) by omega)]
      rw [if_pos (show (byt s i % 32) * 64 + byt s (i + 1) % 64 ≥ 0x80 by omega), szFin_ok z d1 (by omega), ea]; rfl
    · have d2 := mt cont1.2 d1
      rw [szFin_cont (by simpa using d1), if_neg (show ¬ (byt s i / 32 = 6 ∧ (i + 1 < s.size ∧ byt s (i + 1) / 64 = 2)) by omega), if_neg (show ¬ (byt s i / 16 = 14 ∧ (i + 1 < s.size ∧ byt s (i + 1) / 64 = 2) ∧ (i + 2 < s.size ∧ byt s (i + 2) / 64 = 2)) by omega), if_neg (show ¬ (byt s i / 8 = 30 ∧ (i + 1 < s.size ∧ byt s (i + 1) / 64 = 2) ∧ (i + 2 < s.size ∧ byt s (i + 2) / 64 = 2) ∧ (i + 3 < s.size ∧ byt s (i + 3) / 64 = 2)) by omega)]; rfl
  rw [if_neg c1]
  by_cases c2 : 224 ≤ byt s i ∧ byt s i ≤ 239
  · rw [if_pos c2, if_neg (show ¬ (byt s i / 32 = 6 ∧ (i + 1 < s.size ∧ byt s (i + 1) / 64 = 2)) by omega)]
    by_cases z : s.size < i + (2 + 1)
    · rw [szFin_short z, if_neg (show ¬ (byt s i / 16 = 14 ∧ (i + 1 < s.size ∧ byt s (i + 1) / 64 = 2) ∧ (i + 2 < s.size ∧ byt s (i + 2) / 64 = 2)) by omega), if_neg (show ¬ (byt s i / 8 = 30 ∧ (i + 1 < s.size ∧ byt s (i + 1) / 64 = 2) ∧ (i + 2 < s.size ∧ byt s (i + 2) / 64 = 2) ∧ (i + 3 < s.size ∧ byt s (i + 3) / 64 = 2)) by omega)]; rfl
    by_cases d1 : contB s i 2 = true
    · have d2 := cont2.1 d1
      have ea : acc s i (byt s i - 224) 2 = (byt s i % 16) * 4096 + (byt s (i + 1) % 64) * 64 + byt s (i + 2) % 64 := by rw [acc2]; omega
      rw [if_pos (show byt s i / 16 = 14 ∧ (i + 1 < s.size ∧ byt s (i + 1) / 64 = 2) ∧ (i + 2 < s.size ∧ byt s (i + 2) / 64 = 2) by omega)]
      have hvv := valid_iff ((byt s i % 16) * 4096 + (byt s (i + 1) % 64) * 64 + byt s (i + 2) % 64)
      by_cases hv : acc s i (byt s i - 224) 2 < 2048 ∨ 1114111 < acc s i (byt s i - 224) 2 ∨ (55296 ≤ acc s i (byt s i - 224) 2 ∧ acc s i (byt s i - 224) 2 ≤ 57343)
      · rw [szFin_low hv, if_neg (fun h => by have := hvv.1 h.2; omega)]; rfl
      · rw [szFin_ok z d1 hv, if_pos ⟨by omega, hvv.2 (by omega)⟩, ea]; rfl
    · have d2 := mt cont2.2 d1
      rw [szFin_cont (by simpa using d1), if_neg (show ¬ (byt s i / 16 = 14 ∧ (i + 1 < s.size ∧ byt s (i + 1) / 64 = 2) ∧ (i + 2 < s.size ∧ byt s (i + 2) / 64 = 2)) by omega), if_neg (show ¬ (byt s i / 8 = 30 ∧ (i + 1 < s.size ∧ byt s (i + 1) / 64 = 2) ∧ (i + 2 < s.size ∧ byt s (i + 2) / 64 = 2) ∧ (i + 3 < s.size ∧ byt s (i + 3) / 64 = 2)) by omega)]; rfl
  rw [if_neg c2]
  by_cases c3 : 240 ≤ byt s i ∧ byt s i ≤ 244
  · rw [if_pos c3, if_neg (show ¬ (byt s i / 32 = 6 ∧ (i + 1 < s.size ∧ byt s (i + 1) / 64 = 2)) by omega), if_neg (show ¬ (byt s i / 16 = 14 ∧ (i + 1 < s.size ∧ byt s (i + 1) / 64 = 2) ∧ (i + 2 < s.size ∧ byt s (i + 2) / 64 = 2)) by omega)]
    by_cases z : s.size < i + (3 + 1)
    · rw [szFin_short z, if_neg (show ¬ (byt s i / 8 = 30 ∧ (i + 1 < s.size ∧ byt s (i + 1) / 64 = 2) ∧ (i + 2 < s.size ∧ byt s (i + 2) / 64 = 2) ∧ (i + 3 < s.size ∧ byt s (i + 3) / 64 = 2)) by omega)]; rfl
    by_cases d1 : contB s i 3 = true
    · have d2 := cont3.1 d1
      have ea : acc s i (byt s i - 240) 3 = (byt s i % 8) * 262144 + (byt s (i + 1) % 64) * 4096 + (byt s (i + 2) % 64) * 64 + byt s (i + 3) % 64 := by rw [acc3]; omega
      rw [if_pos (show byt s i / 8 = 30 ∧ (i + 1 < s.size ∧ byt s (i + 1) / 64 = 2) ∧ (i + 2 < s.size ∧ byt s (i + 2) / 64 = 2) ∧ (i + 3 < s.size ∧ byt s (i + 3) / 64 = 2) by omega)]
      have hvv := valid_iff ((byt s i % 8) * 262144 + (byt s (i + 1) % 64) * 4096 + (byt s (i + 2) % 64) * 64 + byt s (i + 3) % 64)
      by_cases hv : acc s i (byt s i - 240) 3 < 65536 ∨ 1114111 < acc s i (byt s i - 240) 3 ∨ (55296 ≤ acc s i (byt s i - 240) 3 ∧ acc s i (byt s i - 240) 3 ≤ 57343)
      · rw [szFin_low hv, if_neg (fun h => by have := hvv.1 h.2; omega)]; rfl
      · rw [szFin_ok z d1 hv, if_pos ⟨by omega, hvv.2 (by omega)⟩, ea]; rfl
    · have d2 := mt cont3.2 d1
      rw [szFin_cont (by simpa using d1), if_neg (show ¬ (byt s i / 8 = 30 ∧ (i + 1 < s.size ∧ byt s (i + 1) / 64 = 2) ∧ (i + 2 < s.size ∧ byt s (i + 2) / 64 = 2) ∧ (i + 3 < s.size ∧ byt s (i + 3) / 64 = 2)) by omega)]; rfl
  rw [if_neg c3]
  by_cases y1 : byt s i / 32 = 6 ∧ (i + 1 < s.size ∧ byt s (i + 1) / 64 = 2)
  · rw [if_pos y1, if_neg (show ¬ ((byt s i % 32) * 64 + byt s (i + 1) % 64 ≥ 0x80) by omega)]; rfl
  rw [if_neg y1, if_neg (show ¬ (byt s i / 16 = 14 ∧ (i + 1 < s.size ∧ byt s (i + 1) / 64 = 2) ∧ (i + 2 < s.size ∧ byt s (i + 2) / 64 = 2)) by omega)]
  by_cases y3 : byt s i / 8 = 30 ∧ (i + 1 < s.size ∧ byt s (i + 1) / 64 = 2) ∧ (i + 2 < s.size ∧ byt s (i + 2) / 64 = 2) ∧ (i + 3 < s.size ∧ byt s (i + 3) / 64 = 2)
  · have hvv := valid_iff ((byt s i % 8) * 262144 + (byt s (i + 1) % 64) * 4096 + (byt s (i + 2) % 64) * 64 + byt s (i + 3) % 64)
    rw [if_pos y3, if_neg (fun h => by have := hvv.1 h.2; omega)]; rfl
  · rw [if_neg y3]; rfl
end Go.Proofs.YtfckggkmiegokaaDoor
