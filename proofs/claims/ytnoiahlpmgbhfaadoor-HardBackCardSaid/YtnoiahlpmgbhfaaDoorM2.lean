/-
  Texts (layer 5), the first part: runes, in plain Lean: the model's decoder, and the reference's.
-/
import Derived.Test.YtnoiahlpmgbhfaaDoorM1
import Derived.Shelf.Unicode.DecodeAny
set_option linter.unusedSimpArgs false
set_option linter.unusedVariables false
namespace Go.Proofs.YtnoiahlpmgbhfaaDoor
open Go.Vx Go.ChangeShapes Go.WideShapes Go.ChangeAt Go.RowKit
/-- What a rune's bytes come to: v, and k bytes more from place i on. -/
def acc (s : ByteArray) (i v : Nat) : Nat → Nat
  | 0 => v
  | k + 1 => 64 * acc s i v k + byt s (i + (k + 1)) - 128
def contB (s : ByteArray) (i : Nat) : Nat → Bool
  | 0 => true
  | k + 1 => contB s i k && (decide (128 ≤ byt s (i + (k + 1))) && decide (byt s (i + (k + 1)) ≤ 191))
def szFin (s : ByteArray) (i m low v : Nat) : Nat × Nat :=
  if s.size < i + (m + 1) then (0, 0) else if contB s i m = false then (0, 0)
  else if acc s i v m < low ∨ 1114111 < acc s i v m ∨ (55296 ≤ acc s i v m ∧ acc s i v m ≤ 57343) then (0, 0) else (m + 1, acc s i v m)
theorem szFin_short {s : ByteArray} {i m low v : Nat} (h : s.size < i + (m + 1)) : szFin s i m low v = (0, 0) := by unfold szFin; rw [if_pos h]
theorem szFin_cont {s : ByteArray} {i m low v : Nat} (h : contB s i m = false) : szFin s i m low v = (0, 0) := by
  unfold szFin
  rw [if_pos h]
  split <;> rfl
theorem szFin_low {s : ByteArray} {i m low v : Nat} (h : acc s i v m < low ∨ 1114111 < acc s i v m ∨ (55296 ≤ acc s i v m ∧ acc s i v m ≤ 57343)) : szFin s i m low v = (0, 0) := by
  unfold szFin
  rw [if_pos h]
  split
  · rfl
  · split <;> rfl
theorem szFin_ok {s : ByteArray} {i m low v : Nat} (h0 : ¬ s.size < i + (m + 1)) (h1 : contB s i m = true) (h : ¬ (acc s i v m < low ∨ 1114111 < acc s i v m ∨ (55296 ≤ acc s i v m ∧ acc s i v m ≤ 57343))) : szFin s i m low v = (m + 1, acc s i v m) := by
  unfold szFin
  rw [if_neg h0, if_neg (by rw [h1]; simp), if_neg h]
theorem acc1 (s : ByteArray) (i v : Nat) : acc s i v 1 = 64 * v + byt s (i + 1) - 128 := rfl
theorem acc2 (s : ByteArray) (i v : Nat) : acc s i v 2 = 64 * (64 * v + byt s (i + 1) - 128) + byt s (i + 2) - 128 := rfl
theorem acc3 (s : ByteArray) (i v : Nat) : acc s i v 3 = 64 * (64 * (64 * v + byt s (i + 1) - 128) + byt s (i + 2) - 128) + byt s (i + 3) - 128 := rfl
theorem cont1 {s : ByteArray} {i : Nat} : contB s i 1 = true ↔ (128 ≤ byt s (i + 1) ∧ byt s (i + 1) ≤ 191) := by
  show (contB s i 0 && (decide (128 ≤ byt s (i + 1)) && decide (byt s (i + 1) ≤ 191))) = true ↔ _
  simp [contB]
theorem cont2 {s : ByteArray} {i : Nat} : contB s i 2 = true ↔ (128 ≤ byt s (i + 1) ∧ byt s (i + 1) ≤ 191) ∧ (128 ≤ byt s (i + 2) ∧ byt s (i + 2) ≤ 191) := by
  show (contB s i 1 && (decide (128 ≤ byt s (i + 2)) && decide (byt s (i + 2) ≤ 191))) = true ↔ _
  rw [Bool.and_eq_true, cont1]; simp
theorem cont3 {s : ByteArray} {i : Nat} : contB s i 3 = true ↔ ((128 ≤ byt s (i + 1) ∧ byt s (i + 1) ≤ 191) ∧ (128 ≤ byt s (i + 2) ∧ byt s (i + 2) ≤ 191)) ∧ (128 ≤ byt s (i + 3) ∧ byt s (i + 3) ≤ 191) := by
  show (contB s i 2 && (decide (128 ≤ byt s (i + 3)) && decide (byt s (i + 3) ≤ 191))) = true ↔ _
  rw [Bool.and_eq_true, cont2]; simp
/-- The reference's rune at a place: its size (0: there is none), and the rune. -/
def szR (s : ByteArray) (i : Nat) : Nat × Nat :=
  if byt s i < 128 then (1, byt s i)
  else if 194 ≤ byt s i ∧ byt s i ≤ 223 then szFin s i 1 128 (byt s i - 192)
  else if 224 ≤ byt s i ∧ byt s i ≤ 239 then szFin s i 2 2048 (byt s i - 224)
  else if 240 ≤ byt s i ∧ byt s i ≤ 244 then szFin s i 3 65536 (byt s i - 240)
  else (0, 0)
theorem decode_byt (s : ByteArray) (i : Nat) : Utf8.decode s i =
    (if byt s i < 0x80 then (byt s i, 1)
    else if byt s i / 32 = 6 ∧ (i + 1 < s.size ∧ byt s (i + 1) / 64 = 2) then
      (if (byt s i % 32) * 64 + byt s (i + 1) % 64 ≥ 0x80 then ((byt s i % 32) * 64 + byt s (i + 1) % 64, 2) else (65533, 1))
    else if byt s i / 16 = 14 ∧ (i + 1 < s.size ∧ byt s (i + 1) / 64 = 2) ∧ (i + 2 < s.size ∧ byt s (i + 2) / 64 = 2) then
      (if (byt s i % 16) * 4096 + (byt s (i + 1) % 64) * 64 + byt s (i + 2) % 64 ≥ 0x800 ∧ Utf8.valid ((byt s i % 16) * 4096 + (byt s (i + 1) % 64) * 64 + byt s (i + 2) % 64 : Nat) = true then ((byt s i % 16) * 4096 + (byt s (i + 1) % 64) * 64 + byt s (i + 2) % 64, 3) else (65533, 1))
    else if byt s i / 8 = 30 ∧ (i + 1 < s.size ∧ byt s (i + 1) / 64 = 2) ∧ (i + 2 < s.size ∧ byt s (i + 2) / 64 = 2) ∧ (i + 3 < s.size ∧ byt s (i + 3) / 64 = 2) then
      (if (byt s i % 8) * 262144 + (byt s (i + 1) % 64) * 4096 + (byt s (i + 2) % 64) * 64 + byt s (i + 3) % 64 ≥ 0x10000 ∧ Utf8.valid ((byt s i % 8) * 262144 + (byt s (i + 1) % 64) * 4096 + (byt s (i + 2) % 64) * 64 + byt s (i + 3) % 64 : Nat) = true then ((byt s i % 8) * 262144 + (byt s (i + 1) % 64) * 4096 + (byt s (i + 2) % 64) * 64 + byt s (i + 3) % 64, 4) else (65533, 1))
    else (65533, 1)) := by
  unfold Utf8.decode byt
  simp only [Nat.add_zero, Bool.and_eq_true, decide_eq_true_eq, beq_iff_eq, Utf8.runeError, and_assoc]
theorem valid_iff (c : Nat) : Utf8.valid (c : Nat) = true ↔ c < 55296 ∨ (57344 ≤ c ∧ c ≤ 1114111) := by
  unfold Utf8.valid
  simp only [Bool.or_eq_true, Bool.and_eq_true, decide_eq_true_eq]
  omega
theorem decode_of_sz (s : ByteArray) (i : Nat) (h : i < s.size) : Utf8.decode s i = (if (szR s i).1 = 0 then (65533, 1) else ((szR s i).2, (szR s i).1)) := by
  have h0 := byt_lt s i
  have h1 := byt_lt s (i + 1)
  have h2 := byt_lt s (i + 2)
  have h3 := byt_lt s (i + 3)
  rw [decode_byt]
  unfold szR
  by_cases c0 : byt s i < 128
  · rw [if_pos c0, if_pos c0]; rfl
  rw [if_neg c0, if_neg c0]
  by_cases c1 : 194 ≤ byt s i ∧ byt s i ≤ 223
  · rw [if_pos c1]
    by_cases z : s.size < i + (1 + 1)
    · rw [szFin_short z, if_neg (show ¬ (byt s i / 32 = 6 ∧ (i + 1 < s.size ∧ byt s (i + 1) / 64 = 2)) by omega), if_neg (show ¬ (byt s i / 16 = 14 ∧ (i + 1 < s.size ∧ byt s (i + 1) / 64 = 2) ∧ (i + 2 < s.size ∧ byt s (i + 2) / 64 = 2)) by omega), if_neg (show ¬ (byt s i / 8 = 30 ∧ (i + 1 < s.size ∧ byt s (i + 1) / 64 = 2) ∧ (i + 2 < s.size ∧ byt s (i + 2) / 64 = 2) ∧ (i + 3 < s.size ∧ byt s (i + 3) / 64 = 2)) by omega)]; rfl
    by_cases d1 : contB s i 1 = true
    · have d2 := cont1.1 d1
      have ea : acc s i (byt s i - 192) 1 = (byt s i % 32) * 64 + byt s (i + 1) % 64 := by rw [acc1]; omega
      rw [if_pos (show byt s i / 32 = 6 ∧ (i + 1 < s.size ∧ byt s (i + 1) / 64 = 2) by omega)]
      rw [if_pos (show (byt s i % 32) * 64 + byt s (i + 1) % 64 ≥ 0x80 by omega), szFin_ok z d1 (by omega), ea]; rfl
    · have d2 := mt cont1.2 d1
      rw [szFin_cont (by simpa using d1), if_neg (show ¬ (byt s i / 32 = 6 ∧ (i + 1 < s.size ∧ byt s (i + 1) / 64 = 2)) by omega), if_neg (show ¬ (byt s i / 16 = 14 ∧ (i + 1 < s.size ∧ byt s (i + 1) / 64 = 2) ∧ (i + 2 < s.size ∧ byt s (i + 2) / 64 = 2)) by omega), if_neg (show ¬ (byt s i / 8 = 30 ∧ (i + 1 < s.size ∧ byt s (i + 1) / 64 = 2) ∧ (i + 2 < s.size ∧ byt s (i + 2) / 64 = 2) ∧ (i + 3 < s.size ∧ byt s (i + 3) / 64 = 2)) by omega)]; rfl
  rw [if_neg c1]
  by_cases c2 : 224 ≤ byt s i ∧ byt s i ≤ 239
  · rw [if_pos c2, if_neg (show ¬ (byt s i / 32 = 6 ∧ (i + 1 < s.size ∧ byt s (i + 1) / 64 = 2)) by omega)]
    by_cases z : s.size < i + (2 + 1)
    · rw [szFin_short z, if_neg (show ¬ (byt s i / 16 = 14 ∧ (i + 1 < s.size ∧ byt s (i + 1) / 64 = 2) ∧ (i + 2 < s.size ∧ byt s (i + 2) / 64 = 2)) by omega), if_neg (show ¬ (byt s i / 8 = 30 ∧ (i + 1 < s.size ∧ byt s (i + 1) / 64 = 2) ∧ (i + 2 < s.size ∧ byt s (i + 2) / 64 = 2) ∧ (i + 3 < s.size ∧ byt s (i + 3) / 64 = 2)) by omega)]; rfl
    by_cases d1 : contB s i 2 = true
    · have d2 := cont2.1 d1
      have ea : acc s i (byt s i - 224) 2 = (byt s i % 16) * 4096 + (byt s (i + 1) % 64) * 64 + byt s (i + 2) % 64 := by rw [acc2]; omega
      rw [if_pos (show byt s i / 16 = 14 ∧ (i + 1 < s.size ∧ byt s (i + 1) / 64 = 2) ∧ (i + 2 < s.size ∧ byt s (i + 2) / 64 = 2) by omega)]
      have hvv := valid_iff ((byt s i % 16) * 4096 + (byt s (i + 1) % 64) * 64 + byt s (i + 2) % 64)
      by_cases hv : acc s i (byt s i - 224) 2 < 2048 ∨ 1114111 < acc s i (byt s i - 224) 2 ∨ (55296 ≤ acc s i (byt s i - 224) 2 ∧ acc s i (byt s i - 224) 2 ≤ 57343)
      · rw [szFin_low hv, if_neg (fun h => by have := hvv.1 h.2; omega)]; rfl
      · rw [szFin_ok z d1 hv, if_pos ⟨by omega, hvv.2 (by omega)⟩, ea]; rfl
    · have d2 := mt cont2.2 d1
      rw [szFin_cont (by simpa using d1), if_neg (show ¬ (byt s i / 16 = 14 ∧ (i + 1 < s.size ∧ byt s (i + 1) / 64 = 2) ∧ (i + 2 < s.size ∧ byt s (i + 2) / 64 = 2)) by omega), if_neg (show ¬ (byt s i / 8 = 30 ∧ (i + 1 < s.size ∧ byt s (i + 1) / 64 = 2) ∧ (i + 2 < s.size ∧ byt s (i + 2) / 64 = 2) ∧ (i + 3 < s.size ∧ byt s (i + 3) / 64 = 2)) by omega)]; rfl
  rw [if_neg c2]
  by_cases c3 : 240 ≤ byt s i ∧ byt s i ≤ 244
  · rw [if_pos c3, if_neg (show ¬ (byt s i / 32 = 6 ∧ (i + 1 < s.size ∧ byt s (i + 1) / 64 = 2)) by omega), if_neg (show ¬ (byt s i / 16 = 14 ∧ (i + 1 < s.size ∧ byt s (i + 1) / 64 = 2) ∧ (i + 2 < s.size ∧ byt s (i + 2) / 64 = 2)) by omega)]
    by_cases z : s.size < i + (3 + 1)
    · rw [szFin_short z, if_neg (show ¬ (byt s i / 8 = 30 ∧ (i + 1 < s.size ∧ byt s (i + 1) / 64 = 2) ∧ (i + 2 < s.size ∧ byt s (i + 2) / 64 = 2) ∧ (i + 3 < s.size ∧ byt s (i + 3) / 64 = 2)) by omega)]; rfl
    by_cases d1 : contB s i 3 = true
    · have d2 := cont3.1 d1
      have ea : acc s i (byt s i - 240) 3 = (byt s i % 8) * 262144 + (byt s (i + 1) % 64) * 4096 + (byt s (i + 2) % 64) * 64 + byt s (i + 3) % 64 := by rw [acc3]; omega
      rw [if_pos (show byt s i / 8 = 30 ∧ (i + 1 < s.size ∧ byt s (i + 1) / 64 = 2) ∧ (i + 2 < s.size ∧ byt s (i + 2) / 64 = 2) ∧ (i + 3 < s.size ∧ byt s (i + 3) / 64 = 2) by omega)]
      have hvv := valid_iff ((byt s i % 8) * 262144 + (byt s (i + 1) % 64) * 4096 + (byt s (i + 2) % 64) * 64 + byt s (i + 3) % 64)
      by_cases hv : acc s i (byt s i - 240) 3 < 65536 ∨ 1114111 < acc s i (byt s i - 240) 3 ∨ (55296 ≤ acc s i (byt s i - 240) 3 ∧ acc s i (byt s i - 240) 3 ≤ 57343)
      · rw [szFin_low hv, if_neg (fun h => by have := hvv.1 h.2; omega)]; rfl
      · rw [szFin_ok z d1 hv, if_pos ⟨by omega, hvv.2 (by omega)⟩, ea]; rfl
    · have d2 := mt cont3.2 d1
      rw [szFin_cont (by simpa using d1), if_neg (show ¬ (byt s i / 8 = 30 ∧ (i + 1 < s.size ∧ byt s (i + 1) / 64 = 2) ∧ (i + 2 < s.size ∧ byt s (i + 2) / 64 = 2) ∧ (i + 3 < s.size ∧ byt s (i + 3) / 64 = 2)) by omega)]; rfl
  rw [if_neg c3]
  by_cases y1 : byt s i / 32 = 6 ∧ (i + 1 < s.size ∧ byt s (i + 1) / 64 = 2)
  · rw [if_pos y1, if_neg (show ¬ ((byt s i % 32) * 64 + byt s (i + 1) % 64 ≥ 0x80) by omega)]; rfl
  rw [if_neg y1, if_neg (show ¬ (byt s i / 16 = 14 ∧ (i + 1 < s.size ∧ byt s (i + 1) / 64 = 2) ∧ (i + 2 < s.size ∧ byt s (i + 2) / 64 = 2)) by omega)]
  by_cases y3 : byt s i / 8 = 30 ∧ (i + 1 < s.size ∧ byt s (i + 1) / 64 = 2) ∧ (i + 2 < s.size ∧ byt s (i + 2) / 64 = 2) ∧ (i + 3 < s.size ∧ byt s (i + 3) / 64 = 2)
  · have hvv := valid_iff ((byt s i % 8) * 262144 + (byt s (i + 1) % 64) * 4096 + (byt s (i + 2) % 64) * 64 + byt s (i + 3) % 64)
    rw [if_pos y3, if_neg (fun h => by have := hvv.1 h.2; omega)]; rfl
  · rw [if_neg y3]; rfl
end Go.Proofs.YtnoiahlpmgbhfaaDoor
/-
  Texts (layer 5), the second part: what the reference's readers answer.
-/
set_option linter.unusedSimpArgs false
set_option linter.unusedVariables false
namespace Go.Proofs.YtnoiahlpmgbhfaaDoor
open Go.Vx Go.ChangeShapes Go.WideShapes Go.ChangeAt Go.RowKit
def szV (s : ByteArray) (i : Nat) : Value := .tuple [.int .i64 ((szR s i).1 : Int), .int .i64 ((szR s i).2 : Int)].toArray
theorem szV_of {s : ByteArray} {i a b : Nat} (h : szR s i = (a, b)) {x y : Int} (hx : x = a) (hy : y = b) : Value.tuple #[.int .i64 x, .int .i64 y] = szV s i := by
  unfold szV; rw [h, hx, hy]
theorem acc_lt (s : ByteArray) (i v : Nat) (hv : v < 256) : ∀ k, k ≤ 3 → acc s i v k < 256 * 128 ^ k
  | 0, _ => by
    show v < 256 * 128 ^ 0
    omega
  | k + 1, hk => by
    have ih := acc_lt s i v hv k (by omega)
    have h1 := byt_lt s (i + (k + 1))
    have h2 : (128 : Nat) ^ (k + 1) = 128 * 128 ^ k := by rw [Nat.pow_succ, Nat.mul_comm]
    have h3 : 0 < (128 : Nat) ^ k := Nat.pos_of_ne_zero (by simp)
    have h4 : acc s i v (k + 1) = 64 * acc s i v k + byt s (i + (k + 1)) - 128 := rfl
    omega
theorem acc_lt3 (s : ByteArray) (i v : Nat) (hv : v < 256) (k : Nat) (hk : k ≤ 3) : acc s i v k < 536870912 := by
  have := acc_lt s i v hv k hk
  have h2 : (128 : Nat) ^ k ≤ 128 ^ 3 := Nat.pow_le_pow_right (by omega) hk
  have h3 : (128 : Nat) ^ 3 = 2097152 := by decide
  omega
theorem contB_mono {s : ByteArray} {i m : Nat} (h : contB s i m = true) : ∀ {k}, k ≤ m → contB s i k = true := by
  induction m with
  | zero =>
    intro k hk
    have e : k = 0 := by omega
    rw [e]; exact h
  | succ m ih =>
    intro k hk
    by_cases e : k = m + 1
    · subst e; exact h
    · refine ih ?_ (by omega)
      have h2 : (contB s i m && (decide (128 ≤ byt s (i + (m + 1))) && decide (byt s (i + (m + 1)) ≤ 191))) = true := h
      rw [Bool.and_eq_true] at h2
      exact h2.1
theorem size_s {G : GH} {s : ByteArray} {i : Nat} (hi : i < s.size) (hs : s.size ≤ 1000000) : Con Tryd.prog 146 #[.string s, .int .i64 (i : Int)] G [] (Just (szV s i) G) := by
  have b0 := byt_lt s i
  have ei : ((i : Nat) : Int).toNat = i := Int.toNat_natCast i
  refine v_enter Tryd.func146 rfl Tryd.ntmps146 rfl (fun B => ?_)
  repeat' (first | apply v_seq | apply v_region | apply v_nil | apply v_skip | apply v_block | apply v_blk | (apply v_take; (case hg => rfl)) | (apply v_pass; (case hg => rfl); (case hn => rfl); (case hd => rfl)) | (apply v_pure; (case hop => first | (apply p_move <;> rfl) | (apply p_lt <;> rfl) | (apply p_gt <;> rfl) | (apply p_le <;> rfl) | (apply p_ge <;> rfl) | (apply p_assign <;> rfl) | (apply p_pickT <;> rfl) | (apply p_pickF <;> rfl) | (apply p_add; (case hx => rfl); (case hy => rfl); (case h => omega)) | (apply p_sub; (case hx => rfl); (case hy => rfl); (case h => omega)) | (apply p_lenString <;> rfl) | (apply p_convB <;> rfl) | (apply p_indexSn; (case hx => rfl); (case hi => rfl); all_goals omega) | fail); (case hd => rfl)) | (apply v_condF; (case hc => rfl)) | (apply v_cond; (case hc => rfl); all_goals (intro h; (try simp only [reduceCtorEq, dec_true, dec_false, decide_eq_true_eq, decide_eq_false_iff_not, Bool.not_eq_true', Bool.not_eq_false', Option.isNone_iff_eq_none, beq_true, beq_false, beq_iff_eq, beq_eq_false_iff_ne, ne_eq, decide_eq_decide, Bool.not_eq_true, Bool.not_eq_false, Decidable.not_not] at h); first | skip)) | (apply v_guardB; (case h1 => rfl); (case h2 => rfl); all_goals (intro h; (try simp only [reduceCtorEq, dec_true, dec_false, decide_eq_true_eq, decide_eq_false_iff_not, Bool.not_eq_true', Bool.not_eq_false', Option.isNone_iff_eq_none, beq_true, beq_false, beq_iff_eq, beq_eq_false_iff_ne, ne_eq, decide_eq_decide, Bool.not_eq_true, Bool.not_eq_false, Decidable.not_not] at h); first | (exfalso; omega) | skip)) | fail)
  all_goals try
    (refine v_ret [] (outsA2 rfl rfl rfl) (by repeat (first | exact List.Sublist.refl _ | fail)) ?_
     refine ⟨szV_of (a := 1) (b := byt s i) ?_ rfl rfl, rfl, rfl⟩
     unfold szR
     rw [if_pos (by omega)])
  all_goals try
    (refine v_ret [] (outsA2 rfl rfl rfl) (by repeat (first | exact List.Sublist.refl _ | fail)) ?_
     refine ⟨szV_of (a := 0) (b := 0) ?_ rfl rfl, rfl, rfl⟩
     unfold szR
     first
       | rw [if_neg (show ¬ byt s i < 128 by omega), if_pos (show 194 ≤ byt s i ∧ byt s i ≤ 223 by omega), szFin_short (by omega)]
       | rw [if_neg (show ¬ byt s i < 128 by omega), if_neg (show ¬ (194 ≤ byt s i ∧ byt s i ≤ 223) by omega), if_pos (show 224 ≤ byt s i ∧ byt s i ≤ 239 by omega), szFin_short (by omega)]
       | rw [if_neg (show ¬ byt s i < 128 by omega), if_neg (show ¬ (194 ≤ byt s i ∧ byt s i ≤ 223) by omega), if_neg (show ¬ (224 ≤ byt s i ∧ byt s i ≤ 239) by omega), if_pos (show 240 ≤ byt s i ∧ byt s i ≤ 244 by omega), szFin_short (by omega)]
       | rw [if_neg (show ¬ byt s i < 128 by omega), if_neg (show ¬ (194 ≤ byt s i ∧ byt s i ≤ 223) by omega), if_neg (show ¬ (224 ≤ byt s i ∧ byt s i ≤ 239) by omega), if_neg (show ¬ (240 ≤ byt s i ∧ byt s i ≤ 244) by omega)])
  all_goals
    (refine v_loop [10, 9, 7, 8, 0, 1] (fun us G' μ' => G' = G ∧ μ' = [] ∧ ∃ (k m low v : Nat) (x N L : Int), us = [Value.int .i64 ((k : Int) + 1), .int .i64 x, .int .i64 N, .int .i64 L, .string s, .int .i64 (i : Int)] ∧ N = (m : Int) + 1 ∧ L = low ∧ x = (acc s i v k : Nat) ∧ k ≤ m ∧ m ≤ 3 ∧ v < 256 ∧ i + (m + 1) ≤ s.size ∧ contB s i k = true ∧ szR s i = szFin s i m low v) (fun us => 5 - (headI us).toNat) rfl ?_ ?_
     · refine ⟨rfl, rfl, ?_⟩
       first
         | exact ⟨0, 1, 128, byt s i - 192, _, _, _, rfl, rfl, rfl, by show _ = ((byt s i - 192 : Nat) : Int); omega, by omega, by omega, by omega, by omega, rfl, by unfold szR; rw [if_neg (show ¬ byt s i < 128 by omega), if_pos (show 194 ≤ byt s i ∧ byt s i ≤ 223 by omega)]⟩
         | exact ⟨0, 2, 2048, byt s i - 224, _, _, _, rfl, rfl, rfl, by show _ = ((byt s i - 224 : Nat) : Int); omega, by omega, by omega, by omega, by omega, rfl, by unfold szR; rw [if_neg (show ¬ byt s i < 128 by omega), if_neg (show ¬ (194 ≤ byt s i ∧ byt s i ≤ 223) by omega), if_pos (show 224 ≤ byt s i ∧ byt s i ≤ 239 by omega)]⟩
         | exact ⟨0, 3, 65536, byt s i - 240, _, _, _, rfl, rfl, rfl, by show _ = ((byt s i - 240 : Nat) : Int); omega, by omega, by omega, by omega, by omega, rfl, by unfold szR; rw [if_neg (show ¬ byt s i < 128 by omega), if_neg (show ¬ (194 ≤ byt s i ∧ byt s i ≤ 223) by omega), if_neg (show ¬ (224 ≤ byt s i ∧ byt s i ≤ 239) by omega), if_pos (show 240 ≤ byt s i ∧ byt s i ≤ 244 by omega)]⟩
     rintro us G' μ' ⟨rfl, rfl, k, m, low, v, x, N, L, rfl, rfl, rfl, rfl, hk, hm, hv, him, hcb, hsz⟩
     have ha := acc_lt3 s i v hv k (by omega)
     have bk := byt_lt s (i + (k + 1))
     have ek : ((i : Int) + ((k : Int) + 1)).toNat = i + (k + 1) := by omega
     have hacc : acc s i v (k + 1) = 64 * acc s i v k + byt s (i + (k + 1)) - 128 := rfl
     have hcon : contB s i (k + 1) = (contB s i k && (decide (128 ≤ byt s (i + (k + 1))) && decide (byt s (i + (k + 1)) ≤ 191))) := rfl
     repeat' (first | (apply v_pure; (case hop => (apply p_indexSb; (case hx => rfl); (case hi => rfl); all_goals omega)); (case hd => rfl); rw [ek]) | apply v_seq | apply v_region | apply v_nil | apply v_skip | apply v_block | apply v_blk | (apply v_exit; (case hp => rfl)) | (apply v_take; (case hg => rfl)) | (apply v_pass; (case hg => rfl); (case hn => rfl); (case hd => rfl)) | (apply v_passN; (case hg => rfl); (case hn => rfl); (case hd => rfl)) | (apply v_pure; (case hop => first | (apply p_move <;> rfl) | (apply p_lt <;> rfl) | (apply p_gt <;> rfl) | (apply p_le <;> rfl) | (apply p_ge <;> rfl) | (apply p_assign <;> rfl) | (apply p_pickT <;> rfl) | (apply p_pickF <;> rfl) | (apply p_add; (case hx => rfl); (case hy => rfl); (case h => omega)) | (apply p_sub; (case hx => rfl); (case hy => rfl); (case h => omega)) | (apply p_convB <;> rfl) | (apply p_mul; (case hx => rfl); (case hy => rfl); (case h => omega))); (case hd => rfl)) | (apply v_condT; (case hc => rfl)) | (apply v_condF; (case hc => rfl)) | (apply v_cond; (case hc => rfl); all_goals (intro h; (try simp only [reduceCtorEq, dec_true, dec_false, decide_eq_true_eq, decide_eq_false_iff_not, Bool.not_eq_true', Bool.not_eq_false', Option.isNone_iff_eq_none, beq_true, beq_false, beq_iff_eq, beq_eq_false_iff_ne, ne_eq, decide_eq_decide, Bool.not_eq_true, Bool.not_eq_false, Decidable.not_not] at h); first | skip)) | (apply v_guardB; (case h1 => rfl); (case h2 => rfl); all_goals (intro h; (try simp only [reduceCtorEq, dec_true, dec_false, decide_eq_true_eq, decide_eq_false_iff_not, Bool.not_eq_true', Bool.not_eq_false', Option.isNone_iff_eq_none, beq_true, beq_false, beq_iff_eq, beq_eq_false_iff_ne, ne_eq, decide_eq_decide, Bool.not_eq_true, Bool.not_eq_false, Decidable.not_not] at h); first | skip)) | fail)
     all_goals try
       (refine v_ret [] (outsA2 rfl rfl rfl) (by repeat (first | exact List.Sublist.refl _ | fail)) ?_
        refine ⟨szV_of (a := 0) (b := 0) ?_ rfl rfl, rfl, rfl⟩
        rw [hsz]
        first
          | (have : k + 1 ≤ m := by omega
             refine szFin_cont ?_
             cases hc : contB s i m with
             | false => rfl
             | true =>
               have h2 := contB_mono hc this
               rw [hcon] at h2
               simp only [Bool.and_eq_true, decide_eq_true_eq] at h2
               omega)
          | (obtain rfl : k = m := by omega
             refine szFin_low ?_
             omega))
     all_goals try
       (refine v_ret [] (outsA2 rfl rfl rfl) (by repeat (first | exact List.Sublist.refl _ | fail)) ?_
        obtain rfl : k = m := by omega
        refine ⟨szV_of (a := k + 1) (b := acc s i v k) ?_ (by omega) rfl, rfl, rfl⟩
        rw [hsz]
        exact szFin_ok (by omega) hcb (by omega))
     refine v_again rfl ⟨rfl, rfl, k + 1, m, low, v, _, _, _, rfl, rfl, rfl, by rw [hacc]; omega, by omega, hm, hv, him, ?_, hsz⟩ (by simp [headI]; omega)
     rw [hcon, hcb]
     simp only [Bool.true_and, Bool.and_eq_true, decide_eq_true_eq]
     omega)
/-! ### Plain -/
def plainP (r : Int) : Prop := (97 ≤ r ∧ r ≤ 122) ∨ (65 ≤ r ∧ r ≤ 90) ∨ (48 ≤ r ∧ r ≤ 57) ∨ r = 45 ∨ r = 95 ∨ r = 46 ∨ r = 58 ∨ (161 ≤ r ∧ r ≠ 65533)
instance (r : Int) : Decidable (plainP r) := by unfold plainP; infer_instance
theorem byt_list (l : List UInt8) (j : Nat) : byt ⟨l.toArray⟩ j = (l.getD j 0).toNat := by
  unfold byt
  congr 1
  by_cases h : j < l.length
  · simp [ByteArray.get!, h]
  · simp [ByteArray.get!, h]
    rfl
def plainL : List UInt8 := [97, 98, 99, 100, 101, 102, 103, 104, 105, 106, 107, 108, 109, 110, 111, 112, 113, 114, 115, 116, 117, 118, 119, 120, 121, 122, 65, 66, 67, 68, 69, 70, 71] ++ [72, 73, 74, 75, 76, 77, 78, 79, 80, 81, 82, 83, 84, 85, 86, 87, 88, 89, 90, 48, 49, 50, 51, 52, 53, 54, 55, 56, 57, 45, 95, 46, 58]
theorem plainL_all : (List.range 66).all (fun j => decide (plainP ((plainL.getD j 0).toNat : Int))) = true := by decide +kernel
theorem plainL_has : (List.range 128).all (fun c => !decide (plainP (c : Int)) || ((List.range 66).any fun j => decide ((plainL.getD j 0).toNat = c))) = true := by decide +kernel
theorem plain_s (G : GH) (r : Int) : Con Tryd.prog 147 #[.int .i64 r] G [] (Just (.bool (decide (plainP r))) G) := by
  refine v_enter Tryd.func147 rfl Tryd.ntmps147 rfl (fun B => ?_)
  repeat' (first | apply v_seq | apply v_region | apply v_nil | apply v_block | (apply v_pure; (case hop => first | (apply p_assign <;> rfl) | fail); (case hd => rfl)) | fail)
  refine v_loop [4, 3, 0] (fun us G' μ' => G' = G ∧ μ' = [] ∧ ∃ (k : Nat) (sL : ByteArray), us = [Value.int .i64 (k : Int), .string sL, .int .i64 r] ∧ k ≤ 66 ∧ sL.size = 66 ∧ (∀ j, byt sL j = (plainL.getD j 0).toNat) ∧ ∀ j, j < k → ((plainL.getD j 0).toNat : Int) ≠ r) (fun us => 67 - (headI us).toNat) rfl ⟨rfl, rfl, 0, _, rfl, by omega, rfl, fun j => byt_list plainL j, by omega⟩ ?_
  rintro us G' μ' ⟨rfl, rfl, k, sL, rfl, hk, hsz, hb, hno⟩
  repeat' (first | apply v_seq | apply v_region | apply v_nil | apply v_skip | apply v_block | apply v_blk | (apply v_exit; (case hp => rfl)) | (apply v_take; (case hg => rfl)) | (apply v_pass; (case hg => rfl); (case hn => rfl); (case hd => rfl)) | (apply v_pure; (case hop => first | (apply p_move <;> rfl) | (apply p_eq <;> rfl) | (apply p_lt <;> rfl) | (apply p_ne <;> rfl) | (apply p_ge <;> rfl) | (apply p_assign <;> rfl) | (apply p_pickT <;> rfl) | (apply p_pickF <;> rfl) | (apply p_add; (case hx => rfl); (case hy => rfl); (case h => omega)) | (apply p_lenString <;> rfl) | (apply p_convB <;> rfl) | (apply p_indexSn; (case hx => rfl); (case hi => rfl); all_goals omega) | fail); (case hd => rfl)) | (apply v_cond; (case hc => rfl); all_goals (intro h; (try simp only [reduceCtorEq, dec_true, dec_false, decide_eq_true_eq, decide_eq_false_iff_not, Bool.not_eq_true', Bool.not_eq_false', Option.isNone_iff_eq_none, beq_true, beq_false, beq_iff_eq, beq_eq_false_iff_ne, ne_eq, decide_eq_decide, Bool.not_eq_true, Bool.not_eq_false, Decidable.not_not] at h); first | skip)) | (apply v_guardB; (case h1 => rfl); (case h2 => rfl); all_goals (intro h; (try simp only [reduceCtorEq, dec_true, dec_false, decide_eq_true_eq, decide_eq_false_iff_not, Bool.not_eq_true', Bool.not_eq_false', Option.isNone_iff_eq_none, beq_true, beq_false, beq_iff_eq, beq_eq_false_iff_ne, ne_eq, decide_eq_decide, Bool.not_eq_true, Bool.not_eq_false, Decidable.not_not] at h); first | skip)) | fail)
  · refine v_ret [] (outsA1 rfl rfl) (by repeat (first | exact List.Sublist.refl _ | fail)) ?_
    refine ⟨?_, rfl, rfl⟩
    have h1 := List.all_eq_true.1 plainL_all k (by simp; omega)
    rename_i h
    rw [hb] at h
    rw [decide_eq_true_eq, h] at h1
    rw [decide_eq_true h1]
  · refine v_again rfl ⟨rfl, rfl, k + 1, sL, rfl, by omega, hsz, hb, fun j hj => ?_⟩ (by simp [headI]; omega)
    by_cases e : j = k
    · subst e
      rename_i h
      rw [hb] at h
      exact h
    · exact hno j (by omega)
  all_goals
    (have hn : ¬ (0 ≤ r ∧ r < 128 ∧ plainP r) := by
       rintro ⟨h0, h1, h2⟩
       have h3 := List.all_eq_true.1 plainL_has r.toNat (by simp; omega)
       have e : ((r.toNat : Nat) : Int) = r := by omega
       simp only [Bool.or_eq_true, Bool.not_eq_true', decide_eq_false_iff_not, e, List.any_eq_true, List.mem_range, decide_eq_true_eq] at h3
       rcases h3 with h3 | ⟨j, hj, h3⟩
       · exact h3 h2
       · exact hno j (by omega) (by omega)
     refine v_ret [] (outsA1 rfl rfl) (by repeat (first | exact List.Sublist.refl _ | fail)) ?_
     refine ⟨?_, rfl, rfl⟩
     first
       | (have h161 : 161 ≤ r := by assumption
          by_cases hr : r = 65533
          · rw [dec_pos hr, decide_eq_false (by unfold plainP; omega)]; rfl
          · rw [dec_neg hr, decide_eq_true (by unfold plainP; omega)]; rfl)
       | (rw [decide_eq_false]
          intro h
          refine hn ⟨?_, ?_, h⟩ <;> (unfold plainP at h; omega)))
/-! ### The first bad place; keys; values -/
def badR (s : ByteArray) : Nat → Nat → Int
  | 0, _ => -1
  | n + 1, p => if p < s.size then (if (szR s p).1 = 0 then (p : Int) else badR s n (p + (szR s p).1)) else -1
def keyR (s : ByteArray) : Nat → Nat → Bool
  | 0, _ => true
  | n + 1, p => if p < s.size then (if (szR s p).1 = 0 then false else if plainP ((szR s p).2 : Int) then keyR s n (p + (szR s p).1) else false) else true
def keyB (s : ByteArray) : Bool := (decide (1 ≤ s.size) && decide (s.size ≤ 24)) && keyR s s.size 0
def okBytes (s : ByteArray) : Prop := ∀ i, i < s.size → 32 ≤ byt s i ∧ byt s i ≠ 127
noncomputable instance (s : ByteArray) : Decidable (okBytes s) := Classical.propDecidable _
noncomputable def valB (s : ByteArray) : Bool := (decide (s.size ≤ 48) && decide (badR s s.size 0 < 0)) && decide (okBytes s)
theorem badR_end {s : ByteArray} {n p : Nat} (h : ¬ p < s.size) : badR s n p = -1 := by
  cases n with
  | zero => rfl
  | succ n => unfold badR; rw [if_neg h]
theorem keyR_end {s : ByteArray} {n p : Nat} (h : ¬ p < s.size) : keyR s n p = true := by
  cases n with
  | zero => rfl
  | succ n => unfold keyR; rw [if_neg h]
theorem fuel {s : ByteArray} {n p : Nat} (h : p < s.size) (hn : s.size ≤ p + n) : ∃ m, n = m + 1 := ⟨n - 1, by omega⟩
theorem szR_le (s : ByteArray) (p : Nat) : (szR s p).1 ≤ 4 := by
  unfold szR szFin
  repeat' split
  all_goals simp
theorem refBad_s {G : GH} {s : ByteArray} (hs : s.size ≤ 1000000) : Con Tryd.prog 148 #[.string s] G [] (Just (.int .i64 (badR s s.size 0)) G) := by
  refine v_enter Tryd.func148 rfl Tryd.ntmps148 rfl (fun B => ?_)
  repeat' (first | apply v_seq | apply v_region | apply v_nil | apply v_block | (apply v_pure; (case hop => first | (apply p_assign <;> rfl) | fail); (case hd => rfl)) | fail)
  refine v_loop [3, 0] (fun us G' μ' => G' = G ∧ μ' = [] ∧ ∃ (p n : Nat), us = [Value.int .i64 (p : Int), .string s] ∧ s.size ≤ p + n ∧ p ≤ s.size + 4 ∧ badR s s.size 0 = badR s n p) (fun us => s.size - (headI us).toNat) rfl ⟨rfl, rfl, 0, s.size, rfl, by omega, by omega, rfl⟩ ?_
  rintro us G' μ' ⟨rfl, rfl, p, n, rfl, hn, hp, he⟩
  have h4 := szR_le s p
  repeat' (first | apply v_seq | apply v_region | apply v_nil | apply v_skip | apply v_block | apply v_blk | (apply v_exit; (case hp => rfl)) | (apply v_pure; (case hop => first | (apply p_move <;> rfl) | (apply p_eq <;> rfl) | (apply p_lt <;> rfl) | (apply p_assign <;> rfl) | (apply p_extract0 <;> rfl) | (apply p_extract1 <;> rfl) | (apply p_add; (case hx => rfl); (case hy => rfl); (case h => omega)) | (apply p_lenString <;> rfl) | fail); (case hd => rfl)) | (apply v_cond; (case hc => rfl); all_goals (intro h; (try simp only [reduceCtorEq, dec_true, dec_false, decide_eq_true_eq, decide_eq_false_iff_not, Bool.not_eq_true', Bool.not_eq_false', Option.isNone_iff_eq_none, beq_true, beq_false, beq_iff_eq, beq_eq_false_iff_ne, ne_eq, decide_eq_decide, Bool.not_eq_true, Bool.not_eq_false, Decidable.not_not] at h); first | skip)) | (apply v_callJ (hs := size_s ?o1 ?o2); (case ha => rfl); (case o1 => omega); (case o2 => omega); (case hd => rfl)) | fail)
  · obtain ⟨m, rfl⟩ := fuel (by omega) hn
    refine v_ret [] (outsA1 rfl rfl) (by repeat (first | exact List.Sublist.refl _ | fail)) ?_
    refine ⟨?_, rfl, rfl⟩
    rw [he, badR, if_pos (by omega), if_pos (by omega)]
  · obtain ⟨m, rfl⟩ := fuel (by omega) hn
    refine v_again rfl ⟨rfl, rfl, p + (szR s p).1, m, rfl, by omega, by omega, ?_⟩ (by simp [headI]; omega)
    rw [he, badR, if_pos (by omega), if_neg (by omega)]
  · refine v_ret [] (outsA1 rfl rfl) (by repeat (first | exact List.Sublist.refl _ | fail)) ?_
    refine ⟨?_, rfl, rfl⟩
    rw [he, badR_end (by omega)]
theorem refKey_s {G : GH} {s : ByteArray} (hs : s.size ≤ 9223372036854775807) : Con Tryd.prog 107 #[.string s] G [] (Just (.bool (keyB s)) G) := by
  refine v_enter Tryd.func107 rfl Tryd.ntmps107 rfl (fun B => ?_)
  repeat' (first | apply v_seq | apply v_region | apply v_nil | apply v_skip | apply v_block | (apply v_take; (case hg => rfl)) | (apply v_pass; (case hg => rfl); (case hn => rfl); (case hd => rfl)) | (apply v_pure; (case hop => first | (apply p_move <;> rfl) | (apply p_lt <;> rfl) | (apply p_gt <;> rfl) | (apply p_assign <;> rfl) | (apply p_pickT <;> rfl) | (apply p_pickF <;> rfl) | (apply p_lenString <;> rfl) | fail); (case hd => rfl)) | (apply v_condT; (case hc => rfl)) | (apply v_cond; (case hc => rfl); all_goals (intro h; (try simp only [reduceCtorEq, dec_true, dec_false, decide_eq_true_eq, decide_eq_false_iff_not, Bool.not_eq_true', Bool.not_eq_false', Option.isNone_iff_eq_none, beq_true, beq_false, beq_iff_eq, beq_eq_false_iff_ne, ne_eq, decide_eq_decide, Bool.not_eq_true, Bool.not_eq_false, Decidable.not_not] at h); first | skip)) | (apply v_guardB; (case h1 => rfl); (case h2 => rfl); all_goals (intro h; (try simp only [reduceCtorEq, dec_true, dec_false, decide_eq_true_eq, decide_eq_false_iff_not, Bool.not_eq_true', Bool.not_eq_false', Option.isNone_iff_eq_none, beq_true, beq_false, beq_iff_eq, beq_eq_false_iff_ne, ne_eq, decide_eq_decide, Bool.not_eq_true, Bool.not_eq_false, Decidable.not_not] at h); first | skip)) | fail)
  all_goals try
    (refine v_ret [] (outsA1 rfl rfl) (by repeat (first | exact List.Sublist.refl _ | fail)) ?_
     refine ⟨?_, rfl, rfl⟩
     have : (decide (1 ≤ s.size) && decide (s.size ≤ 24)) = false := by
       rw [Bool.and_eq_false_iff, decide_eq_false_iff_not, decide_eq_false_iff_not]; omega
     rw [keyB, this]; rfl)
  have hk : keyB s = keyR s s.size 0 := by
    rw [keyB, decide_eq_true (by omega), decide_eq_true (by omega)]; rfl
  refine v_loop [3, 0] (fun us G' μ' => G' = G ∧ μ' = [] ∧ ∃ (p n : Nat), us = [Value.int .i64 (p : Int), .string s] ∧ s.size ≤ p + n ∧ p ≤ s.size + 4 ∧ keyB s = keyR s n p) (fun us => s.size - (headI us).toNat) rfl ⟨rfl, rfl, 0, s.size, rfl, by omega, by omega, hk⟩ ?_
  rintro us G' μ' ⟨rfl, rfl, p, n, rfl, hn, hp, he⟩
  have h4 := szR_le s p
  repeat' (first | apply v_seq | apply v_region | apply v_nil | apply v_skip | apply v_block | apply v_blk | (apply v_exit; (case hp => rfl)) | (apply v_take; (case hg => rfl)) | (apply v_pass; (case hg => rfl); (case hn => rfl); (case hd => rfl)) | (apply v_pure; (case hop => first | (apply p_move <;> rfl) | (apply p_eq <;> rfl) | (apply p_lt <;> rfl) | (apply p_assign <;> rfl) | (apply p_pickT <;> rfl) | (apply p_pickF <;> rfl) | (apply p_not <;> rfl) | (apply p_extract0 <;> rfl) | (apply p_extract1 <;> rfl) | (apply p_add; (case hx => rfl); (case hy => rfl); (case h => omega)) | (apply p_lenString <;> rfl) | fail); (case hd => rfl)) | (apply v_condT; (case hc => rfl)) | (apply v_cond; (case hc => rfl); all_goals (intro h; (try simp only [reduceCtorEq, dec_true, dec_false, decide_eq_true_eq, decide_eq_false_iff_not, Bool.not_eq_true', Bool.not_eq_false', Option.isNone_iff_eq_none, beq_true, beq_false, beq_iff_eq, beq_eq_false_iff_ne, ne_eq, decide_eq_decide, Bool.not_eq_true, Bool.not_eq_false, Decidable.not_not] at h); first | skip)) | (apply v_guardB; (case h1 => rfl); (case h2 => rfl); all_goals (intro h; (try simp only [reduceCtorEq, dec_true, dec_false, decide_eq_true_eq, decide_eq_false_iff_not, Bool.not_eq_true', Bool.not_eq_false', Option.isNone_iff_eq_none, beq_true, beq_false, beq_iff_eq, beq_eq_false_iff_ne, ne_eq, decide_eq_decide, Bool.not_eq_true, Bool.not_eq_false, Decidable.not_not] at h); first | skip)) | (apply v_callJ (hs := size_s ?o1 ?o2); (case ha => rfl); (case o1 => omega); (case o2 => omega); (case hd => rfl)) | (apply v_callJ (hs := plain_s _ _); (case ha => rfl); (case hd => rfl)) | fail)
  · obtain ⟨m, rfl⟩ := fuel (by omega) hn
    refine v_ret [] (outsA1 rfl rfl) (by repeat (first | exact List.Sublist.refl _ | fail)) ?_
    refine ⟨?_, rfl, rfl⟩
    rw [he, keyR, if_pos (by omega), if_pos (by omega)]
  · obtain ⟨m, rfl⟩ := fuel (by omega) hn
    refine v_ret [] (outsA1 rfl rfl) (by repeat (first | exact List.Sublist.refl _ | fail)) ?_
    refine ⟨?_, rfl, rfl⟩
    rw [he, keyR, if_pos (by omega), if_neg (by omega), if_neg (by assumption)]
  · obtain ⟨m, rfl⟩ := fuel (by omega) hn
    refine v_again rfl ⟨rfl, rfl, p + (szR s p).1, m, rfl, by omega, by omega, ?_⟩ (by simp [headI]; omega)
    rw [he, keyR, if_pos (by omega), if_neg (by omega), if_pos (by assumption)]
  · refine v_ret [] (outsA1 rfl rfl) (by repeat (first | exact List.Sublist.refl _ | fail)) ?_
    refine ⟨?_, rfl, rfl⟩
    rw [he, keyR_end (by omega)]
theorem refVal_s {G : GH} {s : ByteArray} (hs : s.size ≤ 9223372036854775807) : Con Tryd.prog 108 #[.string s] G [] (Just (.bool (valB s)) G) := by
  refine v_enter Tryd.func108 rfl Tryd.ntmps108 rfl (fun B => ?_)
  repeat' (first | apply v_seq | apply v_region | apply v_nil | apply v_skip | apply v_block | (apply v_take; (case hg => rfl)) | (apply v_pass; (case hg => rfl); (case hn => rfl); (case hd => rfl)) | (apply v_pure; (case hop => first | (apply p_move <;> rfl) | (apply p_gt <;> rfl) | (apply p_ge <;> rfl) | (apply p_assign <;> rfl) | (apply p_pickT <;> rfl) | (apply p_pickF <;> rfl) | (apply p_lenString <;> rfl) | fail); (case hd => rfl)) | (apply v_condT; (case hc => rfl)) | (apply v_cond; (case hc => rfl); all_goals (intro h; (try simp only [reduceCtorEq, dec_true, dec_false, decide_eq_true_eq, decide_eq_false_iff_not, Bool.not_eq_true', Bool.not_eq_false', Option.isNone_iff_eq_none, beq_true, beq_false, beq_iff_eq, beq_eq_false_iff_ne, ne_eq, decide_eq_decide, Bool.not_eq_true, Bool.not_eq_false, Decidable.not_not] at h); first | skip)) | (apply v_guardB; (case h1 => rfl); (case h2 => rfl); all_goals (intro h; (try simp only [reduceCtorEq, dec_true, dec_false, decide_eq_true_eq, decide_eq_false_iff_not, Bool.not_eq_true', Bool.not_eq_false', Option.isNone_iff_eq_none, beq_true, beq_false, beq_iff_eq, beq_eq_false_iff_ne, ne_eq, decide_eq_decide, Bool.not_eq_true, Bool.not_eq_false, Decidable.not_not] at h); first | skip)) | (apply v_callJ (hs := refBad_s ?o1); (case ha => rfl); (case o1 => omega); (case hd => rfl)) | fail)
  all_goals try
    (refine v_ret [] (outsA1 rfl rfl) (by repeat (first | exact List.Sublist.refl _ | fail)) ?_
     refine ⟨?_, rfl, rfl⟩
     have : (decide (s.size ≤ 48) && decide (badR s s.size 0 < 0)) = false := by
       rw [Bool.and_eq_false_iff, decide_eq_false_iff_not, decide_eq_false_iff_not]; omega
     rw [valB, this]; rfl)
  have hv : valB s = decide (okBytes s) := by
    rw [valB, decide_eq_true (by omega), decide_eq_true (by omega)]; rfl
  refine v_loop [3, 0] (fun us G' μ' => G' = G ∧ μ' = [] ∧ ∃ (p : Nat), us = [Value.int .i64 (p : Int), .string s] ∧ p ≤ s.size ∧ ∀ j, j < p → 32 ≤ byt s j ∧ byt s j ≠ 127) (fun us => s.size - (headI us).toNat) rfl ⟨rfl, rfl, 0, rfl, by omega, by omega⟩ ?_
  rintro us G' μ' ⟨rfl, rfl, p, rfl, hp, hno⟩
  repeat' (first | apply v_seq | apply v_region | apply v_nil | apply v_skip | apply v_block | apply v_blk | (apply v_exit; (case hp => rfl)) | (apply v_take; (case hg => rfl)) | (apply v_pass; (case hg => rfl); (case hn => rfl); (case hd => rfl)) | (apply v_pure; (case hop => first | (apply p_move <;> rfl) | (apply p_eq <;> rfl) | (apply p_lt <;> rfl) | (apply p_assign <;> rfl) | (apply p_pickT <;> rfl) | (apply p_pickF <;> rfl) | (apply p_add; (case hx => rfl); (case hy => rfl); (case h => omega)) | (apply p_lenString <;> rfl) | (apply p_indexSn; (case hx => rfl); (case hi => rfl); all_goals omega) | fail); (case hd => rfl)) | (apply v_condT; (case hc => rfl)) | (apply v_cond; (case hc => rfl); all_goals (intro h; (try simp only [reduceCtorEq, dec_true, dec_false, decide_eq_true_eq, decide_eq_false_iff_not, Bool.not_eq_true', Bool.not_eq_false', Option.isNone_iff_eq_none, beq_true, beq_false, beq_iff_eq, beq_eq_false_iff_ne, ne_eq, decide_eq_decide, Bool.not_eq_true, Bool.not_eq_false, Decidable.not_not] at h); first | skip)) | (apply v_guardB; (case h1 => rfl); (case h2 => rfl); all_goals (intro h; (try simp only [reduceCtorEq, dec_true, dec_false, decide_eq_true_eq, decide_eq_false_iff_not, Bool.not_eq_true', Bool.not_eq_false', Option.isNone_iff_eq_none, beq_true, beq_false, beq_iff_eq, beq_eq_false_iff_ne, ne_eq, decide_eq_decide, Bool.not_eq_true, Bool.not_eq_false, Decidable.not_not] at h); first | skip)) | fail)
  all_goals try
    (refine v_ret [] (outsA1 rfl rfl) (by repeat (first | exact List.Sublist.refl _ | fail)) ?_
     refine ⟨?_, rfl, rfl⟩
     rw [hv, decide_eq_false]
     intro hm
     have := hm p (by omega)
     omega)
  all_goals try
    (refine v_again rfl ⟨rfl, rfl, p + 1, rfl, by omega, fun j hj => ?_⟩ (by simp [headI]; omega)
     by_cases e : j = p
     · subst e; omega
     · exact hno j (by omega))
  refine v_ret [] (outsA1 rfl rfl) (by repeat (first | exact List.Sublist.refl _ | fail)) ?_
  refine ⟨?_, rfl, rfl⟩
  rw [hv, decide_eq_true]
  exact fun j hj => hno j (by omega)
end Go.Proofs.YtnoiahlpmgbhfaaDoor
/-
  Texts (layer 5), the third part: what the program's readers answer: the same.
-/
set_option linter.unusedSimpArgs false
set_option linter.unusedVariables false
namespace Go.Proofs.YtnoiahlpmgbhfaaDoor
open Go.Vx Go.ChangeShapes Go.WideShapes Go.ChangeAt Go.RowKit
/-! ### Plain lists of runes, by the model's decoder -/
def allF (f : Nat → Bool) (s : ByteArray) : Nat → Nat → Bool
  | 0, _ => true
  | n + 1, p => if p < s.size then (if f (Utf8.decode s p).1 = true then allF f s n (p + (Utf8.decode s p).2) else false) else true
theorem allF_end {f : Nat → Bool} {s : ByteArray} {n p : Nat} (h : ¬ p < s.size) : allF f s n p = true := by
  cases n with
  | zero => rfl
  | succ n => unfold allF; rw [if_neg h]
theorem decode_w (s : ByteArray) (p : Nat) (h : p < s.size) : 1 ≤ (Utf8.decode s p).2 ∧ (Utf8.decode s p).2 ≤ 4 ∧ (Utf8.decode s p).1 < 1114112 := by
  rw [decode_of_sz s p h]
  have h4 := szR_le s p
  have h5 : (szR s p).2 ≤ 1114111 := by
    have := byt_lt s p
    unfold szR szFin
    repeat' split
    all_goals (try simp only); omega
  split
  · simp
  · simp only; omega
theorem allF_plain (s : ByteArray) : ∀ n p, s.size ≤ p + n → (decide (badR s n p < 0) && allF (fun r => decide (plainP (r : Int))) s n p) = keyR s n p
  | 0, p, h => by simp [badR, allF, keyR]
  | n + 1, p, h => by
    unfold badR allF keyR
    by_cases hp : p < s.size
    · simp only [if_pos hp]
      rw [decode_of_sz s p hp]
      by_cases hz : (szR s p).1 = 0
      · simp only [if_pos hz]
        simp; omega
      · simp only [if_neg hz]
        by_cases hf : plainP ((szR s p).2 : Int)
        · simp only [decide_eq_true hf, if_true, if_pos hf]
          exact allF_plain s n _ (by omega)
        · simp [hf]
    · simp [hp]
theorem szFin_spec {s : ByteArray} {i m low v : Nat} (h : (szFin s i m low v).1 ≠ 0) : ¬ s.size < i + (m + 1) ∧ contB s i m = true ∧ szFin s i m low v = (m + 1, acc s i v m) ∧ low ≤ acc s i v m := by
  by_cases h1 : s.size < i + (m + 1)
  · rw [szFin_short h1] at h; exact absurd rfl h
  cases h2 : contB s i m with
  | false => rw [szFin_cont h2] at h; exact absurd rfl h
  | true =>
    by_cases h3 : acc s i v m < low ∨ 1114111 < acc s i v m ∨ (55296 ≤ acc s i v m ∧ acc s i v m ≤ 57343)
    · rw [szFin_low h3] at h; exact absurd rfl h
    · exact ⟨h1, rfl, szFin_ok h1 h2 h3, by omega⟩
theorem cont_bytes {s : ByteArray} {i m : Nat} (h : contB s i m = true) : ∀ k, k < m → 128 ≤ byt s (i + (k + 1)) := by
  intro k hk
  have h1 : (contB s i k && (decide (128 ≤ byt s (i + (k + 1))) && decide (byt s (i + (k + 1)) ≤ 191))) = true := contB_mono h (k := k + 1) (by omega)
  simp only [Bool.and_eq_true, decide_eq_true_eq] at h1
  exact h1.2.1
theorem szFin_bytes {s : ByteArray} {i m low v : Nat} (hb : 128 ≤ byt s i) (hl : 128 ≤ low) (h : (szFin s i m low v).1 ≠ 0) : ((decide (32 ≤ (szFin s i m low v).2) && decide ((szFin s i m low v).2 ≠ 127)) = true ↔ ∀ j, i ≤ j → j < i + (szFin s i m low v).1 → 32 ≤ byt s j ∧ byt s j ≠ 127) ∧ i + (szFin s i m low v).1 ≤ s.size := by
  obtain ⟨h1, h2, h3, h4⟩ := szFin_spec h
  rw [h3]
  simp only [Bool.and_eq_true, decide_eq_true_eq]
  refine ⟨⟨fun _ j hj hj2 => ?_, fun _ => by omega⟩, by omega⟩
  by_cases e : j = i
  · subst e; omega
  · have := cont_bytes h2 (j - i - 1) (by omega)
    rw [show i + (j - i - 1 + 1) = j by omega] at this
    omega
theorem sz_both (s : ByteArray) (p : Nat) (hz : ¬ (szR s p).1 = 0) : ((decide (32 ≤ (szR s p).2) && decide ((szR s p).2 ≠ 127)) = true ↔ ∀ i, p ≤ i → i < p + (szR s p).1 → 32 ≤ byt s i ∧ byt s i ≠ 127) ∧ (p < s.size → p + (szR s p).1 ≤ s.size) := by
  unfold szR at hz ⊢
  by_cases c0 : byt s p < 128
  · simp only [if_pos c0] at hz ⊢
    simp only [Bool.and_eq_true, decide_eq_true_eq]
    refine ⟨⟨fun h i h1 h2 => ?_, fun h => h p (by omega) (by omega)⟩, by omega⟩
    obtain rfl : i = p := by omega
    exact h
  · simp only [if_neg c0] at hz ⊢
    by_cases c1 : 194 ≤ byt s p ∧ byt s p ≤ 223
    · simp only [if_pos c1] at hz ⊢
      have := szFin_bytes (by omega) (by omega) hz
      exact ⟨this.1, fun _ => this.2⟩
    · simp only [if_neg c1] at hz ⊢
      by_cases c2 : 224 ≤ byt s p ∧ byt s p ≤ 239
      · simp only [if_pos c2] at hz ⊢
        have := szFin_bytes (by omega) (by omega) hz
        exact ⟨this.1, fun _ => this.2⟩
      · simp only [if_neg c2] at hz ⊢
        by_cases c3 : 240 ≤ byt s p ∧ byt s p ≤ 244
        · simp only [if_pos c3] at hz ⊢
          have := szFin_bytes (by omega) (by omega) hz
          exact ⟨this.1, fun _ => this.2⟩
        · simp only [if_neg c3] at hz
          exact absurd trivial hz
theorem sz_bytes (s : ByteArray) (p : Nat) (hz : ¬ (szR s p).1 = 0) : ((decide (32 ≤ (szR s p).2) && decide ((szR s p).2 ≠ 127)) = true ↔ ∀ i, p ≤ i → i < p + (szR s p).1 → 32 ≤ byt s i ∧ byt s i ≠ 127) := (sz_both s p hz).1
theorem sz_end (s : ByteArray) (p : Nat) (hz : ¬ (szR s p).1 = 0) (h : p < s.size) : p + (szR s p).1 ≤ s.size := (sz_both s p hz).2 h
theorem allF_val (s : ByteArray) : ∀ n p, s.size ≤ p + n → badR s n p < 0 → (allF (fun r => decide (32 ≤ r) && decide (r ≠ 127)) s n p = true ↔ ∀ i, p ≤ i → i < s.size → 32 ≤ byt s i ∧ byt s i ≠ 127)
  | 0, p, h, _ => by
    simp only [allF, true_iff]
    intro i h1 h2; omega
  | n + 1, p, h, hb => by
    unfold badR at hb
    unfold allF
    by_cases hp : p < s.size
    · rw [if_pos hp] at hb ⊢
      rw [decode_of_sz s p hp]
      by_cases hz : (szR s p).1 = 0
      · rw [if_pos hz] at hb; omega
      · rw [if_neg hz] at hb
        simp only [if_neg hz]
        have ih := allF_val s n (p + (szR s p).1) (by omega) hb
        have key : ((decide (32 ≤ (szR s p).2) && decide ((szR s p).2 ≠ 127)) = true) ↔ ∀ i, p ≤ i → i < p + (szR s p).1 → 32 ≤ byt s i ∧ byt s i ≠ 127 := sz_bytes s p hz
        by_cases hf : (decide (32 ≤ (szR s p).2) && decide ((szR s p).2 ≠ 127)) = true
        · rw [if_pos hf, ih]
          have hk := key.1 hf
          constructor
          · intro hh i h1 h2
            by_cases hi : i < p + (szR s p).1
            · exact hk i h1 hi
            · exact hh i (by omega) h2
          · intro hh i h1 h2
            exact hh i (by omega) h2
        · rw [if_neg hf]
          constructor
          · intro hh; cases hh
          · intro hh
            have := key.2 fun i h1 h2 => hh i h1 (by have := sz_end s p hz hp; omega)
            rw [this] at hf; exact absurd rfl hf
    · rw [if_neg hp]
      simp only [true_iff]
      intro i h1 h2; omega
/-! ### The library's decoder -/
def laysDecode_ren : Go.Shelf.Ren := ⟨fun | 197 => 163 | 260 => 164 | n => n, fun | 0 => 0 | 3 => 3 | 4 => 4 | 5 => 5 | 9 => 9 | 21 => 21 | 46 => 151 | 105 => 160 | 119 => 162 | 138 => 164 | 139 => 165 | n => n, fun | 3 => 0 | 4 => 1 | n => n⟩
theorem laysDecode : Lays.n197 Tryd.prog laysDecode_ren where
  mixed := by kernel_rfl
  f197 := Tryd.func163.trans (congrArg some (by kernel_rfl))
  f260 := Tryd.func164.trans (congrArg some (by kernel_rfl))
  t0 := Tryd.underlying0
  a0 := Tryd.isAgg0
  z0 := Tryd.sizeOf0
  v0 := Tryd.zeroValue0
  t3 := Tryd.underlying3
  a3 := Tryd.isAgg3
  z3 := Tryd.sizeOf3
  v3 := Tryd.zeroValue3
  t4 := Tryd.underlying4
  a4 := Tryd.isAgg4
  z4 := Tryd.sizeOf4
  v4 := Tryd.zeroValue4
  t5 := Tryd.underlying5
  a5 := Tryd.isAgg5
  z5 := Tryd.sizeOf5
  v5 := Tryd.zeroValue5
  t9 := Tryd.underlying9
  a9 := Tryd.isAgg9
  z9 := Tryd.sizeOf9
  v9 := Tryd.zeroValue9
  t21 := Tryd.underlying21
  a21 := Tryd.isAgg21
  z21 := Tryd.sizeOf21
  v21 := Tryd.zeroValue21
  t46 := Tryd.underlying151
  a46 := Tryd.isAgg151
  z46 := Tryd.sizeOf151
  v46 := Tryd.zeroValue151
  t105 := Tryd.underlying160
  a105 := Tryd.isAgg160
  z105 := Tryd.sizeOf160
  v105 := Tryd.zeroValue160
  t119 := Tryd.underlying162
  a119 := Tryd.isAgg162
  z119 := Tryd.sizeOf162
  t138 := Tryd.underlying164
  a138 := Tryd.isAgg164
  z138 := Tryd.sizeOf164
  v138 := Tryd.zeroValue164
  t139 := Tryd.underlying165
  a139 := Tryd.isAgg165
  z139 := Tryd.sizeOf165
  v139 := Tryd.zeroValue165
  g3 := by kernel_rfl
  g4 := by kernel_rfl

/-- What is frozen shows the two tables of unicode/utf8. -/
def TabsG (G : GH) : Prop := ∀ w : World, (∀ b o, G b = some o → w.heap[b]? = some o) → Lib.Utf8Tabs (laysDecode_ren.g 3) (laysDecode_ren.g 4) w
theorem TabsG.le {G G' : GH} (h : TabsG G) (hle : GH.le G G') : TabsG G' := fun w hw => h w fun b o hb => hw b o (hle b o hb)
attribute [local semireducible] Con in
theorem Con.ofCalls {P : Program} {f : FuncId} {args : Array Value} {G : GH} {μ : OH} {Φ : Value → GH → OH → Prop} (h : ∀ w, Mem G μ w → Calls P f args w fun e w' => ∃ v, e = .returned v ∧ ∃ G' μ', Step G μ w G' μ' w' ∧ Φ v G' μ') : Con P f args G μ Φ := by
  intro w hw
  exact (h w hw).mono fun e w' hq => by
    obtain ⟨v, rfl, hv⟩ := hq
    exact ⟨v, rfl, hv⟩
/-- A callee that leaves all below as it was is a step of ours that gives nothing back. -/
theorem Step.ofBelow {G : GH} {w w' : World} (hw : Mem G [] w) (hb : Below w.heap.size w w') : Step G [] w G [] w' :=
  ⟨⟨fun b o h => by rw [hb.block b (lt_of_heap (hw.g b o h))]; exact hw.g b o h, fun _ _ h => (by cases h), List.nodup_nil, fun _ _ h => (by cases h)⟩, GH.le_refl _, hb.os, hb.tape, hb.output, hb.size, fun b h _ => hb.block b h, fun _ _ h => (by cases h), fun b o h => .inl ⟨o, h⟩⟩
theorem decode_s {G : GH} (hT : TabsG G) (s : ByteArray) : Con Tryd.prog 163 #[.string s] G [] (Just (.tuple [.int .i32 ((Lib.decodeGo s).1 : Int), .int .i64 ((Lib.decodeGo s).2 : Int)].toArray) G) := by
  refine Con.ofCalls fun w hw => ?_
  refine (Any.utf8_DecodeRuneInString laysDecode s w (hT w hw.g)).mono ?_
  rintro e w' ⟨rfl, hb⟩
  exact ⟨_, rfl, G, [], Step.ofBelow hw hb, rfl, rfl, rfl⟩
end Go.Proofs.YtnoiahlpmgbhfaaDoor
/-
  Texts (layer 5), the fourth part: the program's walks.
-/
set_option linter.unusedSimpArgs false
set_option linter.unusedVariables false
namespace Go.Proofs.YtnoiahlpmgbhfaaDoor
open Go.Vx Go.ChangeShapes Go.WideShapes Go.ChangeAt Go.RowKit
theorem byt_extract {s : ByteArray} {i k : Nat} (h : i + k < s.size) : byt (s.extract i s.size) k = byt s (i + k) := by
  have hs : (s.extract i s.size).size = s.size - i := by simp
  rw [byt_eq (by omega), byt_eq h]
  congr 1
  simp [ByteArray.getElem_extract]
theorem decode_extract {s : ByteArray} {i : Nat} (h : i < s.size) : Utf8.decode (s.extract i s.size) 0 = Utf8.decode s i := by
  have hs : (s.extract i s.size).size = s.size - i := by simp
  rw [decode_byt, decode_byt, hs]
  have e0 := byt_extract (s := s) (i := i) (k := 0) h
  rw [Nat.add_zero] at e0
  simp only [Nat.zero_add, e0]
  by_cases h1 : i + 1 < s.size
  · have e1 := byt_extract (s := s) (i := i) (k := 1) h1
    rw [e1]
    have c1 : (1 < s.size - i) ↔ (i + 1 < s.size) := by omega
    simp only [c1]
    by_cases h2 : i + 2 < s.size
    · have e2 := byt_extract (s := s) (i := i) (k := 2) h2
      rw [e2]
      have c2 : (2 < s.size - i) ↔ (i + 2 < s.size) := by omega
      simp only [c2]
      by_cases h3 : i + 3 < s.size
      · have e3 := byt_extract (s := s) (i := i) (k := 3) h3
        rw [e3]
        have c3 : (3 < s.size - i) ↔ (i + 3 < s.size) := by omega
        simp only [c3]
      · have c3 : ¬ (3 < s.size - i) := by omega
        simp only [h3, c3, false_and, and_false, if_false]
    · have c2 : ¬ (2 < s.size - i) := by omega
      simp only [h2, c2, false_and, and_false, if_false]
  · have c1 : ¬ (1 < s.size - i) := by omega
    simp only [h1, c1, false_and, and_false, if_false]
theorem decodeGo_extract {s : ByteArray} {i : Nat} (h : i < s.size) : Lib.decodeGo (s.extract i s.size) = Utf8.decode s i := by
  have hs : (s.extract i s.size).size = s.size - i := by simp
  rw [Lib.decodeGo, if_neg (by omega), decode_extract h]
theorem sz_one {s : ByteArray} {p : Nat} (h : (szR s p).1 = 1) : (szR s p).2 < 128 := by
  unfold szR at h ⊢
  by_cases c0 : byt s p < 128
  · rw [if_pos c0]; exact c0
  · rw [if_neg c0] at h
    exfalso
    have key : ∀ m low v, 0 < m → (szFin s p m low v).1 ≠ 1 := by
      intro m low v hm e
      obtain ⟨_, _, h3, _⟩ := szFin_spec (s := s) (i := p) (m := m) (low := low) (v := v) (by omega)
      rw [h3] at e
      simp only at e
      omega
    split at h
    · exact key _ _ _ (by omega) h
    · split at h
      · exact key _ _ _ (by omega) h
      · split at h
        · exact key _ _ _ (by omega) h
        · cases h
theorem bad_s {G : GH} (hT : TabsG G) {s : ByteArray} (hs : s.size ≤ 9223372036854775807) : Con Tryd.prog 161 #[.string s] G [] (Just (.int .i64 (badR s s.size 0)) G) := by
  apply Con.just
  refine v_enter Tryd.func161 rfl Tryd.ntmps161 rfl (fun B => ?_)
  repeat' (first | apply v_seq | apply v_region | apply v_nil | apply v_block | (apply v_pure; (case hop => first | (apply p_move <;> rfl) | (apply p_assign <;> rfl) | fail); (case hd => rfl)) | (apply v_rangeS; (case hx => rfl); (case hd => rfl); intro b) | fail)
  refine v_loopI (ι := Nat × Nat) [8, 0] (fun x us G' μ' => G' = G ∧ ∃ b, us = [Value.pointer (some ⟨b, 0, none⟩), .string s] ∧ μ' = [(b, .stringIter s x.1)] ∧ s.size ≤ x.1 + x.2 ∧ badR s s.size 0 = badR s x.2 x.1) (fun x => s.size - x.1) rfl (0, s.size) ⟨rfl, _, rfl, rfl, by simp, rfl⟩ ?_
  rintro ⟨p, n⟩ us G' μ' ⟨rfl, b, rfl, rfl, hn, he⟩
  simp only at hn he
  by_cases hp : p < s.size
  · obtain ⟨m, rfl⟩ := fuel hp hn
    have hw := decode_w s p hp
    have hd := decode_of_sz s p hp
    have hd2 := decodeGo_extract hp
    have ep : ((p : Nat) : Int).toNat = p := Int.toNat_natCast p
    have hcall := decode_s hT (s.extract p s.size)
    rw [hd2] at hcall
    repeat' (first | apply v_seq | apply v_region | apply v_nil | apply v_skip | apply v_block | apply v_blk | (apply v_exit; (case hp => rfl)) | (apply v_pure; (case hop => first | (apply p_move <;> rfl) | (apply p_eq <;> rfl) | (apply p_ne <;> rfl) | (apply p_assign <;> rfl) | (apply p_extract0 <;> rfl) | (apply p_extract1 <;> rfl) | (apply p_extract2 <;> rfl) | (apply p_sliceStrL; (case hx => rfl); (case hl => rfl); all_goals omega) | fail); (case hd => rfl)) | (apply v_condT; (case hc => rfl)) | (apply v_cond; (case hc => rfl); all_goals (intro h; (try simp only [reduceCtorEq, dec_true, dec_false, decide_eq_true_eq, decide_eq_false_iff_not, Bool.not_eq_true', Bool.not_eq_false', Option.isNone_iff_eq_none, beq_true, beq_false, beq_iff_eq, beq_eq_false_iff_ne, ne_eq, decide_eq_decide, Bool.not_eq_true, Bool.not_eq_false, Decidable.not_not] at h); first | skip)) | (apply v_nextS; (case hx => rfl); (case hb => (repeat (first | exact List.Mem.head _ | fail))); (case hp => assumption); (case hu => exact Upd.here _ _); (case hd => rfl)) | (apply v_callJ (hs := hcall); (case ha => rfl); (case hd => rfl)) | fail)
    · by_cases hz : (szR s p).1 = 0
      · rw [if_pos hz] at hd
        simp only [hd] at h
        omega
      · rw [if_neg hz] at hd
        refine v_againI (p + (szR s p).1, m) rfl ⟨rfl, b, rfl, by rw [hd], by simp only; rw [hd] at hw; simp only at hw; omega, ?_⟩ (by simp only; rw [hd] at hw; simp only at hw; omega)
        rw [he, badR, if_pos hp, if_neg hz]
    · refine v_ret [] (outsA1 rfl rfl) (by repeat (first | exact List.nil_sublist _ | fail)) ?_
      refine ⟨?_, rfl⟩
      have hz : (szR s p).1 = 0 := by
        apply Classical.byContradiction
        intro hz
        rw [if_neg hz] at hd
        rename_i h1
        rw [hd] at h h1
        simp only at h h1
        have := sz_one (s := s) (p := p) (by omega)
        omega
      rw [he, badR, if_pos hp, if_pos hz]
    · by_cases hz : (szR s p).1 = 0
      · rw [if_pos hz] at hd
        rw [hd] at h
        simp at h
      · rw [if_neg hz] at hd
        refine v_againI (p + (szR s p).1, m) rfl ⟨rfl, b, rfl, by rw [hd], by simp only; rw [hd] at hw; simp only at hw; omega, ?_⟩ (by simp only; rw [hd] at hw; simp only at hw; omega)
        rw [he, badR, if_pos hp, if_neg hz]
  · repeat' (first | apply v_seq | apply v_region | apply v_nil | (apply v_exit; (case hp => rfl)) | (apply v_pure; (case hop => first | (apply p_assign <;> rfl) | (apply p_extract0 <;> rfl) | fail); (case hd => rfl)) | (apply v_condF; (case hc => rfl)) | (apply v_read; (case hop => (apply r_nextEnd; (case hx => rfl); (case hb => (repeat (first | exact List.Mem.head _ | fail))); (case hp => assumption))); (case hd => rfl)) | fail)
    refine v_ret [] (outsA1 rfl rfl) (by repeat (first | exact List.nil_sublist _ | fail)) ?_
    refine ⟨?_, rfl⟩
    rw [he, badR_end hp]
theorem whole_s {G : GH} (hT : TabsG G) {s : ByteArray} (hs : s.size ≤ 9223372036854775807) : Con Tryd.prog 156 #[.string s] G [] (Just (.bool (decide (badR s s.size 0 < 0))) G) := by
  refine v_enter Tryd.func156 rfl Tryd.ntmps156 rfl (fun B => ?_)
  repeat' (first | apply v_seq | apply v_region | apply v_nil | (apply v_pure; (case hop => first | (apply p_move <;> rfl) | (apply p_lt <;> rfl) | (apply p_assign <;> rfl)); (case hd => rfl)) | (apply v_callJ (hs := bad_s ?o1 ?o2); (case ha => rfl); (case o1 => exact hT); (case o2 => exact hs); (case hd => rfl)) | fail)
  refine v_ret [] (outsA1 rfl rfl) (by repeat (first | exact List.Sublist.refl _ | fail)) ?_
  exact ⟨by rw [dec_eq], rfl, rfl⟩
theorem plainR_s (G : GH) (r : Int) : Con Tryd.prog 158 #[.int .i32 r] G [] (Just (.bool (decide (plainP r))) G) := by
  refine v_enter Tryd.func158 rfl Tryd.ntmps158 rfl (fun B => ?_)
  repeat' (first | apply v_seq | apply v_region | apply v_nil | apply v_skip | apply v_block | apply v_blk | (apply v_take; (case hg => rfl)) | (apply v_pass; (case hg => rfl); (case hn => rfl); (case hd => rfl)) | (apply v_pure; (case hop => first | (apply p_move <;> rfl) | (apply p_eq <;> rfl) | (apply p_ne <;> rfl) | (apply p_le <;> rfl) | (apply p_ge <;> rfl) | (apply p_assign <;> rfl) | (apply p_pickT <;> rfl) | (apply p_pickF <;> rfl) | fail); (case hd => rfl)) | (apply v_condF; (case hc => rfl)) | (apply v_cond; (case hc => rfl); all_goals (intro h; (try simp only [reduceCtorEq, dec_true, dec_false, decide_eq_true_eq, decide_eq_false_iff_not, Bool.not_eq_true', Bool.not_eq_false', Option.isNone_iff_eq_none, beq_true, beq_false, beq_iff_eq, beq_eq_false_iff_ne, ne_eq, decide_eq_decide, Bool.not_eq_true, Bool.not_eq_false, Decidable.not_not] at h); first | (exfalso; omega) | skip)) | (apply v_guardB; (case h1 => rfl); (case h2 => rfl); all_goals (intro h; (try simp only [reduceCtorEq, dec_true, dec_false, decide_eq_true_eq, decide_eq_false_iff_not, Bool.not_eq_true', Bool.not_eq_false', Option.isNone_iff_eq_none, beq_true, beq_false, beq_iff_eq, beq_eq_false_iff_ne, ne_eq, decide_eq_decide, Bool.not_eq_true, Bool.not_eq_false, Decidable.not_not] at h); first | (exfalso; omega) | skip)) | fail)
  all_goals
    (refine v_ret [] (outsA1 rfl rfl) (by repeat (first | exact List.Sublist.refl _ | fail)) ?_
     refine ⟨?_, rfl, rfl⟩
     first
       | rw [decide_eq_true (by unfold plainP; omega)]
       | rw [decide_eq_false (by unfold plainP; omega)]
       | (by_cases hr : r = 65533
          · rw [dec_pos hr, decide_eq_false (by unfold plainP; omega)]; rfl
          · rw [dec_neg hr, decide_eq_true (by unfold plainP; omega)]; rfl))
theorem valR_s (G : GH) (r : Nat) : Con Tryd.prog 159 #[.int .i32 (r : Int)] G [] (Just (.bool (decide (32 ≤ r) && decide (r ≠ 127))) G) := by
  refine v_enter Tryd.func159 rfl Tryd.ntmps159 rfl (fun B => ?_)
  repeat' (first | apply v_seq | apply v_region | apply v_nil | (apply v_take; (case hg => rfl)) | (apply v_pass; (case hg => rfl); (case hn => rfl); (case hd => rfl)) | (apply v_pure; (case hop => first | (apply p_move <;> rfl) | (apply p_ne <;> rfl) | (apply p_ge <;> rfl) | (apply p_assign <;> rfl) | (apply p_pickT <;> rfl) | (apply p_pickF <;> rfl) | fail); (case hd => rfl)) | (apply v_guardB; (case h1 => rfl); (case h2 => rfl); all_goals (intro h; (try simp only [reduceCtorEq, dec_true, dec_false, decide_eq_true_eq, decide_eq_false_iff_not, Bool.not_eq_true', Bool.not_eq_false', Option.isNone_iff_eq_none, beq_true, beq_false, beq_iff_eq, beq_eq_false_iff_ne, ne_eq, decide_eq_decide, Bool.not_eq_true, Bool.not_eq_false, Decidable.not_not] at h); first | skip)) | fail)
  all_goals
    (refine v_ret [] (outsA1 rfl rfl) (by repeat (first | exact List.Sublist.refl _ | fail)) ?_
     refine ⟨?_, rfl, rfl⟩
     by_cases h2 : r = 127
     · first
         | rw [dec_pos (show (r : Int) = 127 by omega), decide_eq_false (p := r ≠ 127) (by omega), Bool.and_false]; rfl
         | rw [decide_eq_false (p := r ≠ 127) (by omega), Bool.and_false]
     · first
         | rw [dec_neg (show ¬ (r : Int) = 127 by omega), decide_eq_true (p := r ≠ 127) (by omega), decide_eq_true (p := 32 ≤ r) (by omega)]; rfl
         | rw [decide_eq_false (p := 32 ≤ r) (by omega), Bool.false_and])
theorem all_s {G : GH} {s : ByteArray} (hs : s.size ≤ 9223372036854775807) (fid : FuncId) [Callable Tryd.prog fid] (f : Nat → Bool) (hf : ∀ (r : Nat), Con Tryd.prog fid #[.int .i32 (r : Int)] G [] (Just (.bool (f r)) G)) :
    Con Tryd.prog 157 #[.string s, .func (.func fid) #[] #[]] G [] (Just (.bool (allF f s s.size 0)) G) := by
  apply Con.just
  refine v_enter Tryd.func157 rfl Tryd.ntmps157 rfl (fun B => ?_)
  repeat' (first | apply v_seq | apply v_region | apply v_nil | apply v_block | (apply v_pure; (case hop => first | (apply p_move <;> rfl) | (apply p_assign <;> rfl) | fail); (case hd => rfl)) | (apply v_rangeS; (case hx => rfl); (case hd => rfl); intro b) | fail)
  refine v_loopI (ι := Nat × Nat) [8, 1] (fun x us G' μ' => G' = G ∧ ∃ b, us = [Value.pointer (some ⟨b, 0, none⟩), .func (.func fid) #[] #[]] ∧ μ' = [(b, .stringIter s x.1)] ∧ s.size ≤ x.1 + x.2 ∧ allF f s s.size 0 = allF f s x.2 x.1) (fun x => s.size - x.1) rfl (0, s.size) ⟨rfl, _, rfl, rfl, by simp, rfl⟩ ?_
  rintro ⟨p, n⟩ us G' μ' ⟨rfl, b, rfl, rfl, hn, he⟩
  simp only at hn he
  by_cases hp : p < s.size
  · obtain ⟨m, rfl⟩ := fuel hp hn
    have hw := decode_w s p hp
    repeat' (first | apply v_seq | apply v_region | apply v_nil | apply v_skip | apply v_block | apply v_blk | (apply v_pure; (case hop => first | (apply p_move <;> rfl) | (apply p_assign <;> rfl) | (apply p_not <;> rfl) | (apply p_extract0 <;> rfl) | (apply p_extract2 <;> rfl) | fail); (case hd => rfl)) | (apply v_condT; (case hc => rfl)) | (apply v_cond; (case hc => rfl); all_goals (intro h; (try simp only [reduceCtorEq, dec_true, dec_false, decide_eq_true_eq, decide_eq_false_iff_not, Bool.not_eq_true', Bool.not_eq_false', Option.isNone_iff_eq_none, beq_true, beq_false, beq_iff_eq, beq_eq_false_iff_ne, ne_eq, decide_eq_decide, Bool.not_eq_true, Bool.not_eq_false, Decidable.not_not] at h); first | skip)) | (apply v_nextS; (case hx => rfl); (case hb => (repeat (first | exact List.Mem.head _ | fail))); (case hp => assumption); (case hu => exact Upd.here _ _); (case hd => rfl)) | (apply v_callFJ0 (hs := hf (Utf8.decode s p).1); (case hx => rfl); (case ha => rfl); (case hd => rfl)) | fail)
    · refine v_ret [] (outsA1 rfl rfl) (by repeat (first | exact List.nil_sublist _ | fail)) ?_
      refine ⟨?_, rfl⟩
      rw [he, allF, if_pos hp, if_neg (by rw [h]; simp)]
    · refine v_againI (p + (Utf8.decode s p).2, m) rfl ⟨rfl, b, rfl, rfl, by simp only; omega, ?_⟩ (by simp only; omega)
      rw [he, allF, if_pos hp, if_pos (by assumption)]
  · repeat' (first | apply v_seq | apply v_region | apply v_nil | (apply v_exit; (case hp => rfl)) | (apply v_pure; (case hop => first | (apply p_assign <;> rfl) | (apply p_extract0 <;> rfl) | fail); (case hd => rfl)) | (apply v_condF; (case hc => rfl)) | (apply v_read; (case hop => (apply r_nextEnd; (case hx => rfl); (case hb => (repeat (first | exact List.Mem.head _ | fail))); (case hp => assumption))); (case hd => rfl)) | fail)
    refine v_ret [] (outsA1 rfl rfl) (by repeat (first | exact List.nil_sublist _ | fail)) ?_
    refine ⟨?_, rfl⟩
    rw [he, allF_end hp]
theorem key_s {G : GH} (hT : TabsG G) {s : ByteArray} (hs : s.size ≤ 9223372036854775807) : Con Tryd.prog 133 #[.string s] G [] (Just (.bool (keyB s)) G) := by
  have hall := all_s (G := G) hs 158 (fun r => decide (plainP (r : Int))) (fun r => plainR_s G r)
  have hk := allF_plain s s.size 0 (by omega)
  refine v_enter Tryd.func133 rfl Tryd.ntmps133 rfl (fun B => ?_)
  repeat' (first | apply v_seq | apply v_region | apply v_nil | (apply v_take; (case hg => rfl)) | (apply v_pass; (case hg => rfl); (case hn => rfl); (case hd => rfl)) | (apply v_pure; (case hop => first | (apply p_move <;> rfl) | (apply p_le <;> rfl) | (apply p_assign <;> rfl) | (apply p_pickT <;> rfl) | (apply p_pickF <;> rfl) | (apply p_lenString <;> rfl) | (apply p_neS <;> rfl) | fail); (case hd => rfl)) | (apply v_guardB; (case h1 => rfl); (case h2 => rfl); all_goals (intro h; (try simp only [reduceCtorEq, dec_true, dec_false, decide_eq_true_eq, decide_eq_false_iff_not, Bool.not_eq_true', Bool.not_eq_false', Option.isNone_iff_eq_none, beq_true, beq_false, beq_iff_eq, beq_eq_false_iff_ne, ne_eq, decide_eq_decide, Bool.not_eq_true, Bool.not_eq_false, Decidable.not_not] at h); first | skip)) | (apply v_callJ (hs := whole_s hT hs); (case ha => rfl); (case hd => rfl)) | (apply v_callJ (hs := hall); (case ha => rfl); (case hd => rfl)) | fail)
  · refine v_ret [] (outsA1 rfl rfl) (by repeat (first | exact List.Sublist.refl _ | fail)) ?_
    refine ⟨?_, rfl, rfl⟩
    have h0 : 1 ≤ s.size := by
      apply Classical.byContradiction
      intro h0
      have : s = ByteArray.empty := by
        apply ByteArray.ext
        apply Array.eq_empty_of_size_eq_zero
        show s.size = 0
        omega
      exact absurd this (by assumption)
    rw [keyB, ← hk, decide_eq_true h0, decide_eq_true (by omega), decide_eq_true (by assumption)]; rfl
  · refine v_ret [] (outsA1 rfl rfl) (by repeat (first | exact List.Sublist.refl _ | fail)) ?_
    refine ⟨?_, rfl, rfl⟩
    rw [keyB, ← hk, decide_eq_false (p := badR s s.size 0 < 0) (by assumption), Bool.false_and, Bool.and_false]
  · refine v_ret [] (outsA1 rfl rfl) (by repeat (first | exact List.Sublist.refl _ | fail)) ?_
    refine ⟨?_, rfl, rfl⟩
    rw [keyB, decide_eq_false (p := s.size ≤ 24) (by omega), Bool.and_false, Bool.false_and]
  · refine v_ret [] (outsA1 rfl rfl) (by repeat (first | exact List.Sublist.refl _ | fail)) ?_
    refine ⟨?_, rfl, rfl⟩
    have h0 : s.size = 0 := by rw [h]; rfl
    rw [keyB, decide_eq_false (p := 1 ≤ s.size) (by omega), Bool.false_and, Bool.false_and]
theorem val_s {G : GH} (hT : TabsG G) {s : ByteArray} (hs : s.size ≤ 9223372036854775807) : Con Tryd.prog 135 #[.string s] G [] (Just (.bool (valB s)) G) := by
  have hall := all_s (G := G) hs 159 (fun r => decide (32 ≤ r) && decide (r ≠ 127)) (fun r => valR_s G r)
  have hv := allF_val s s.size 0 (by omega)
  refine v_enter Tryd.func135 rfl Tryd.ntmps135 rfl (fun B => ?_)
  repeat' (first | apply v_seq | apply v_region | apply v_nil | (apply v_take; (case hg => rfl)) | (apply v_pass; (case hg => rfl); (case hn => rfl); (case hd => rfl)) | (apply v_pure; (case hop => first | (apply p_move <;> rfl) | (apply p_le <;> rfl) | (apply p_assign <;> rfl) | (apply p_pickT <;> rfl) | (apply p_pickF <;> rfl) | (apply p_lenString <;> rfl) | fail); (case hd => rfl)) | (apply v_guardB; (case h1 => rfl); (case h2 => rfl); all_goals (intro h; (try simp only [reduceCtorEq, dec_true, dec_false, decide_eq_true_eq, decide_eq_false_iff_not, Bool.not_eq_true', Bool.not_eq_false', Option.isNone_iff_eq_none, beq_true, beq_false, beq_iff_eq, beq_eq_false_iff_ne, ne_eq, decide_eq_decide, Bool.not_eq_true, Bool.not_eq_false, Decidable.not_not] at h); first | skip)) | (apply v_callJ (hs := whole_s hT hs); (case ha => rfl); (case hd => rfl)) | (apply v_callJ (hs := hall); (case ha => rfl); (case hd => rfl)) | fail)
  · refine v_ret [] (outsA1 rfl rfl) (by repeat (first | exact List.Sublist.refl _ | fail)) ?_
    refine ⟨?_, rfl, rfl⟩
    have hv' := hv (by assumption)
    have e : allF (fun r => decide (32 ≤ r) && decide (r ≠ 127)) s s.size 0 = decide (okBytes s) := by
      rw [Bool.eq_iff_iff, hv', decide_eq_true_iff]
      exact ⟨fun h i hi => h i (by omega) hi, fun h i _ hi => h i hi⟩
    rw [valB, e, decide_eq_true (p := s.size ≤ 48) (by omega), decide_eq_true (p := badR s s.size 0 < 0) (by assumption)]; rfl
  · refine v_ret [] (outsA1 rfl rfl) (by repeat (first | exact List.Sublist.refl _ | fail)) ?_
    refine ⟨?_, rfl, rfl⟩
    rw [valB, decide_eq_false (p := badR s s.size 0 < 0) (by assumption), Bool.and_false, Bool.false_and]
  · refine v_ret [] (outsA1 rfl rfl) (by repeat (first | exact List.Sublist.refl _ | fail)) ?_
    refine ⟨?_, rfl, rfl⟩
    rw [valB, decide_eq_false (p := s.size ≤ 48) (by omega), Bool.false_and, Bool.false_and]
end Go.Proofs.YtnoiahlpmgbhfaaDoor
/-
  cmd (layer 8), the first part: the fields of a command.
-/
set_option linter.unusedSimpArgs false
set_option linter.unusedVariables false
namespace Go.Proofs.YtnoiahlpmgbhfaaDoor
open Go.Vx Go.ChangeShapes Go.WideShapes Go.ChangeAt Go.RowKit
/-- A command. -/
structure Cm where
  kind : Int
  client : Int
  seq : Int
  key : ByteArray
  val : ByteArray
  old : ByteArray
  node : Int
def Cm.cells (c : Cm) : List Value := [.int .i64 c.kind, .int .i64 c.client, .int .i64 c.seq, .string c.key, .string c.val, .string c.old, .int .i64 c.node]
def Cm.ok (c : Cm) : Prop := (Lit.int .i64 c.kind).wf = true ∧ (Lit.int .i64 c.client).wf = true ∧ (Lit.int .i64 c.seq).wf = true ∧ c.key.size ≤ maxLen ∧ c.val.size ≤ maxLen ∧ c.old.size ≤ maxLen ∧ (Lit.int .i64 c.node).wf = true
def cmdFields (kind : Int) : Int × Bool :=
  if kind = 1 ∨ kind = 6 then (0, true) else if kind = 2 then (11, true) else if kind = 3 ∨ kind = 4 then (3, true) else if kind = 5 then (15, true) else if kind = 7 ∨ kind = 8 then (16, true) else (0, false)
theorem fields_s (G : GH) (kind : Int) : Con Tryd.prog 139 #[.int .i64 kind] G [] (Just (.tuple [.int .i64 (cmdFields kind).1, .bool (cmdFields kind).2].toArray) G) := by
  refine v_enter Tryd.func139 rfl Tryd.ntmps139 rfl (fun B => ?_)
  repeat' (first | apply v_seq | apply v_region | apply v_nil | apply v_skip | apply v_block | apply v_blk | (apply v_pure; (case hop => first | (apply p_move <;> rfl) | (apply p_eq <;> rfl) | (apply p_assign <;> rfl) | fail); (case hd => rfl)) | (apply v_cond; (case hc => rfl); all_goals (intro h; (try simp only [reduceCtorEq, dec_true, dec_false, decide_eq_true_eq, decide_eq_false_iff_not, Bool.not_eq_true', Bool.not_eq_false', Option.isNone_iff_eq_none, beq_true, beq_false, beq_iff_eq, beq_eq_false_iff_ne, ne_eq, decide_eq_decide, Bool.not_eq_true, Bool.not_eq_false, Decidable.not_not] at h); first | (exfalso; omega) | skip)) | fail)
  all_goals
    (refine v_ret [] (outsA2 rfl rfl rfl) (by repeat (first | exact List.Sublist.refl _ | fail)) ?_
     refine ⟨?_, rfl, rfl⟩
     unfold cmdFields
     (repeat' split) <;> first | rfl | (exfalso; omega))
/-! ### The parts -/
def partFn (f : FuncId) : Value := .func (.func f) #[] #[]
def partL : Nat → List Value
  | 0 => [.int .i64 1, .int .i64 8, .nilFunc, partFn 131]
  | 1 => [.int .i64 1, .int .i64 4294967296, .nilFunc, partFn 132]
  | 2 => [.int .i64 2, .int .i64 0, partFn 133, partFn 134]
  | 3 => [.int .i64 4, .int .i64 0, partFn 135, partFn 136]
  | 4 => [.int .i64 8, .int .i64 0, partFn 135, partFn 137]
  | _ => [.int .i64 16, .int .i64 9, .nilFunc, partFn 138]
def partsL : List Value := partL 0 ++ (partL 1 ++ (partL 2 ++ (partL 3 ++ (partL 4 ++ partL 5))))
theorem parts_s (G : GH) : Con Tryd.prog 90 #[] G [] (fun r G' μ' => G' = G ∧ ∃ b, r = .slice (some ⟨b, 0, none⟩) 6 6 ∧ μ' = [(b, .cells partsL.toArray 113 (0, 0))]) := by
  refine v_enter Tryd.func90 rfl Tryd.ntmps90 rfl (fun B => ?_)
  repeat' (first | apply v_seq | apply v_region | apply v_nil | (apply v_pure; (case hop => first | (apply p_assign <;> rfl) | (apply p_build; (case hz => rfl); (case hv => (simp only [List.map_cons, List.map_nil]; repeat (first | with_reducible exact evs_nil | (apply evs_cons; (case h1 => rfl))))); (case hb => (apply bldL; repeat (first | exact bld_nil | (apply bld_cons; (case hpf => rfl); (case hc => rfl); (case hs => rfl); (case hl => rfl); (case ho => (first | ((repeat (first | with_reducible exact ov_nil | apply ov_cons | fail)); done) | fail)))))))); (case hd => rfl)) | (apply v_buildSlice; (case hz => rfl); (case hi => rfl); (case hv => (simp only [List.map_cons, List.map_nil]; repeat (first | with_reducible exact evs_nil | (apply evs_cons; (case h1 => rfl))))); (case hp => (first | (apply pk_cons; (case hc => rfl); (case hs => rfl); (case h => (first | (apply pk_cons; (case hc => rfl); (case hs => rfl); (case h => (first | (apply pk_cons; (case hc => rfl); (case hs => rfl); (case h => (first | (apply pk_cons; (case hc => rfl); (case hs => rfl); (case h => (first | (apply pk_cons; (case hc => rfl); (case hs => rfl); (case h => (first | (apply pk_cons; (case hc => rfl); (case hs => rfl); (case h => (first | with_reducible exact pk_nil | fail)); (case he => (first | ((repeat (first | with_reducible exact ap_nil | apply ap_cons)); done) | fail))) | fail)); (case he => (first | ((repeat (first | with_reducible exact ap_nil | apply ap_cons)); done) | fail))) | fail)); (case he => (first | ((repeat (first | with_reducible exact ap_nil | apply ap_cons)); done) | fail))) | fail)); (case he => (first | ((repeat (first | with_reducible exact ap_nil | apply ap_cons)); done) | fail))) | fail)); (case he => (first | ((repeat (first | with_reducible exact ap_nil | apply ap_cons)); done) | fail))) | fail)); (case he => (first | ((repeat (first | with_reducible exact ap_nil | apply ap_cons)); done) | fail))) | fail)); (case hb => rfl); (case hd => rfl); intro b) | fail)
  refine v_ret [(b, _)] (outsA1 rfl rfl) (by repeat (first | exact List.Sublist.refl _ | fail)) ?_
  exact ⟨rfl, _, rfl, rfl⟩
theorem at1_s (G : GH) (b : Nat) : Con Tryd.prog 131 #[.pointer (some ⟨b, 0, none⟩)] G [] (Just (.iface 133 (.pointer (some ⟨b, 0 + 1, none⟩))) G) := by
  refine v_enter Tryd.func131 rfl Tryd.ntmps131 rfl (fun B => ?_)
  repeat' (first | apply v_seq | apply v_region | apply v_nil | (apply v_pure; (case hop => first | (apply p_move <;> rfl) | (apply p_assign <;> rfl) | (apply p_fieldAddrB <;> rfl) | (apply p_nilCheck <;> rfl) | (apply p_iface <;> rfl)); (case hd => rfl)) | fail)
  refine v_ret [] (outsA1 rfl rfl) (by repeat (first | exact List.Sublist.refl _ | fail)) ?_
  exact ⟨rfl, rfl, rfl⟩
theorem at2_s (G : GH) (b : Nat) : Con Tryd.prog 132 #[.pointer (some ⟨b, 0, none⟩)] G [] (Just (.iface 133 (.pointer (some ⟨b, 0 + 2, none⟩))) G) := by
  refine v_enter Tryd.func132 rfl Tryd.ntmps132 rfl (fun B => ?_)
  repeat' (first | apply v_seq | apply v_region | apply v_nil | (apply v_pure; (case hop => first | (apply p_move <;> rfl) | (apply p_assign <;> rfl) | (apply p_fieldAddrB <;> rfl) | (apply p_nilCheck <;> rfl) | (apply p_iface <;> rfl)); (case hd => rfl)) | fail)
  refine v_ret [] (outsA1 rfl rfl) (by repeat (first | exact List.Sublist.refl _ | fail)) ?_
  exact ⟨rfl, rfl, rfl⟩
theorem at3_s (G : GH) (b : Nat) : Con Tryd.prog 134 #[.pointer (some ⟨b, 0, none⟩)] G [] (Just (.iface 134 (.pointer (some ⟨b, 0 + 3, none⟩))) G) := by
  refine v_enter Tryd.func134 rfl Tryd.ntmps134 rfl (fun B => ?_)
  repeat' (first | apply v_seq | apply v_region | apply v_nil | (apply v_pure; (case hop => first | (apply p_move <;> rfl) | (apply p_assign <;> rfl) | (apply p_fieldAddrB <;> rfl) | (apply p_nilCheck <;> rfl) | (apply p_iface <;> rfl)); (case hd => rfl)) | fail)
  refine v_ret [] (outsA1 rfl rfl) (by repeat (first | exact List.Sublist.refl _ | fail)) ?_
  exact ⟨rfl, rfl, rfl⟩
theorem at4_s (G : GH) (b : Nat) : Con Tryd.prog 136 #[.pointer (some ⟨b, 0, none⟩)] G [] (Just (.iface 134 (.pointer (some ⟨b, 0 + 5, none⟩))) G) := by
  refine v_enter Tryd.func136 rfl Tryd.ntmps136 rfl (fun B => ?_)
  repeat' (first | apply v_seq | apply v_region | apply v_nil | (apply v_pure; (case hop => first | (apply p_move <;> rfl) | (apply p_assign <;> rfl) | (apply p_fieldAddrB <;> rfl) | (apply p_nilCheck <;> rfl) | (apply p_iface <;> rfl)); (case hd => rfl)) | fail)
  refine v_ret [] (outsA1 rfl rfl) (by repeat (first | exact List.Sublist.refl _ | fail)) ?_
  exact ⟨rfl, rfl, rfl⟩
theorem at5_s (G : GH) (b : Nat) : Con Tryd.prog 137 #[.pointer (some ⟨b, 0, none⟩)] G [] (Just (.iface 134 (.pointer (some ⟨b, 0 + 4, none⟩))) G) := by
  refine v_enter Tryd.func137 rfl Tryd.ntmps137 rfl (fun B => ?_)
  repeat' (first | apply v_seq | apply v_region | apply v_nil | (apply v_pure; (case hop => first | (apply p_move <;> rfl) | (apply p_assign <;> rfl) | (apply p_fieldAddrB <;> rfl) | (apply p_nilCheck <;> rfl) | (apply p_iface <;> rfl)); (case hd => rfl)) | fail)
  refine v_ret [] (outsA1 rfl rfl) (by repeat (first | exact List.Sublist.refl _ | fail)) ?_
  exact ⟨rfl, rfl, rfl⟩
theorem at6_s (G : GH) (b : Nat) : Con Tryd.prog 138 #[.pointer (some ⟨b, 0, none⟩)] G [] (Just (.iface 133 (.pointer (some ⟨b, 0 + 6, none⟩))) G) := by
  refine v_enter Tryd.func138 rfl Tryd.ntmps138 rfl (fun B => ?_)
  repeat' (first | apply v_seq | apply v_region | apply v_nil | (apply v_pure; (case hop => first | (apply p_move <;> rfl) | (apply p_assign <;> rfl) | (apply p_fieldAddrB <;> rfl) | (apply p_nilCheck <;> rfl) | (apply p_iface <;> rfl)); (case hd => rfl)) | fail)
  refine v_ret [] (outsA1 rfl rfl) (by repeat (first | exact List.Sublist.refl _ | fail)) ?_
  exact ⟨rfl, rfl, rfl⟩
/-! ### What is right of a part -/
def hasOf : Nat → Int
  | 0 => 1
  | 1 => 1
  | 2 => 2
  | 3 => 4
  | 4 => 8
  | _ => 16
def mostOf : Nat → Int
  | 0 => 8
  | 1 => 4294967296
  | _ => 9
def Cm.num (c : Cm) : Nat → Int
  | 0 => c.client
  | 1 => c.seq
  | _ => c.node
def Cm.txt (c : Cm) : Nat → ByteArray
  | 2 => c.key
  | 3 => c.old
  | _ => c.val
noncomputable def isTxt : Nat → ByteArray → Bool
  | 2 => keyB
  | _ => valB
def isNum (j : Nat) : Bool := j == 0 || j == 1 || j == 5
def numR (c : Cm) (f : Int) (j : Nat) : Bool := if isNum j then (if band f (hasOf j) = 0 then true else decide (1 ≤ c.num j ∧ c.num j ≤ mostOf j)) else true
def numF (c : Cm) (f : Int) (j : Nat) : Bool := if isNum j then (if band f (hasOf j) = 0 then decide (c.num j = 0) else true) else true
noncomputable def txtT (c : Cm) (f : Int) (j : Nat) : Bool := if isNum j then true else (if band f (hasOf j) = 0 then true else isTxt j (c.txt j))
def txtF (c : Cm) (f : Int) (j : Nat) : Bool := if isNum j then true else (if band f (hasOf j) = 0 then decide ((c.txt j).size = 0) else true)
theorem dec_nil {s : ByteArray} : dec (s = { data := #[] }) = decide (s.size = 0) := by
  rw [dec_eq]
  rw [decide_eq_decide]
  constructor
  · intro h; rw [h]; rfl
  · intro h
    apply ByteArray.ext
    exact Array.eq_empty_of_size_eq_zero h
theorem number_s (G : GH) (c : Cm) (f : Int) (cb j : Nat) (hj : j < 6) : Con Tryd.prog 141 #[.agg (partL j).toArray, .pointer (some ⟨cb, 0, none⟩), .int .i64 f] G [(cb, .cells c.cells.toArray 27 (0, 0))]
    (Keeps (.tuple [.bool (numR c f j), .bool (numF c f j)].toArray) G [(cb, .cells c.cells.toArray 27 (0, 0))]) := by
  apply Con.keeps
  unfold Cm.cells
  refine v_enter Tryd.func141 rfl Tryd.ntmps141 rfl (fun B => ?_)
  obtain rfl | rfl | rfl | rfl | rfl | rfl : j = 0 ∨ j = 1 ∨ j = 2 ∨ j = 3 ∨ j = 4 ∨ j = 5 := by omega
  all_goals
    repeat' (first | apply v_seq | apply v_region | apply v_nil | apply v_skip | (apply v_pure; (case hop => first | (apply p_move <;> rfl) | (apply p_eq <;> rfl) | (apply p_assign <;> rfl) | (apply p_not <;> rfl) | (apply p_fieldAddrB <;> rfl) | (apply p_extract0 <;> rfl) | (apply p_extract1 <;> rfl) | (apply p_assertOk <;> rfl) | (apply p_assertNo <;> rfl) | (apply p_and64 <;> rfl) | fail); (case hd => rfl)) | (apply v_condT; (case hc => rfl)) | (apply v_condF; (case hc => rfl)) | (apply v_cond; (case hc => rfl); all_goals (intro h; (try simp only [reduceCtorEq, dec_true, dec_false, decide_eq_true_eq, decide_eq_false_iff_not, Bool.not_eq_true', Bool.not_eq_false', Option.isNone_iff_eq_none, beq_true, beq_false, beq_iff_eq, beq_eq_false_iff_ne, ne_eq, decide_eq_decide, Bool.not_eq_true, Bool.not_eq_false, Decidable.not_not] at h); first | skip)) | (apply v_callFJ0 (hs := at1_s _ cb); (case hx => rfl); (case ha => rfl); (case hd => rfl)) | (apply v_callFJ0 (hs := at2_s _ cb); (case hx => rfl); (case ha => rfl); (case hd => rfl)) | (apply v_callFJ0 (hs := at3_s _ cb); (case hx => rfl); (case ha => rfl); (case hd => rfl)) | (apply v_callFJ0 (hs := at4_s _ cb); (case hx => rfl); (case ha => rfl); (case hd => rfl)) | (apply v_callFJ0 (hs := at5_s _ cb); (case hx => rfl); (case ha => rfl); (case hd => rfl)) | (apply v_callFJ0 (hs := at6_s _ cb); (case hx => rfl); (case ha => rfl); (case hd => rfl)) | (apply v_read; (case hop => first | (apply r_load1; rfl; (apply Cell.own; (case h => (repeat (first | exact List.Mem.head _ | fail))); rfl)) | fail); (case hd => rfl)) | (apply v_box; (case hx => rfl); (case hz => rfl); (case hd => rfl); intro b) | fail)
  all_goals try
    (refine v_ret [(cb, _)] (outsA2 rfl rfl rfl) (by repeat (first | exact List.Sublist.refl _ | apply List.Sublist.cons | fail)) ?_
     exact ⟨rfl, rfl⟩)
  all_goals try
    (refine d_start _ (by kernel_rfl) (by kernel_rfl) (fun _ he => he) ?_
     all_goals (first | (apply d_take 0; (case hi => rfl); (case hop => first | (apply PureOp.read; apply p_move <;> rfl)); (case hf => kernel_rfl); (case hr => kernel_rfl); (case hd => rfl)) | fail)
     all_goals (first | (apply d_take 1; (case hi => rfl); (case hop => first | (apply PureOp.read; apply p_nilCheck <;> rfl)); (case hf => kernel_rfl); (case hr => kernel_rfl); (case hd => rfl)) | fail)
     all_goals (first | (apply d_take 2; (case hi => rfl); (case hop => first   | (apply r_loadNo; (case hx => rfl); (case h => (repeat (fail))); (case hd => (repeat (fail))); (case hn => rfl)) | (apply r_load1; rfl; (apply Cell.own; (case h => (repeat (first | exact List.Mem.head _ | apply List.Mem.tail | fail))); rfl)) | (apply r_loadN; rfl; (apply CellsAt.own; (case h => (repeat (fail)))); rfl)); (case hf => kernel_rfl); (case hr => kernel_rfl); (case hd => rfl)) | fail)
     all_goals (first | (apply d_take 3; (case hi => rfl); (case hop => first | (apply PureOp.read; apply p_eq <;> rfl) | fail); (case hf => kernel_rfl); (case hr => kernel_rfl); (case hd => rfl)) | fail)
     all_goals (first | (apply d_take 4; (case hi => rfl); (case hop => first | (apply PureOp.read; apply p_assign <;> rfl)); (case hf => kernel_rfl); (case hr => kernel_rfl); (case hd => rfl)) | fail)
     all_goals (first | (apply d_take 5; (case hi => rfl); (case hop => first | (apply PureOp.read; apply p_assign <;> rfl)); (case hf => kernel_rfl); (case hr => kernel_rfl); (case hd => rfl)) | fail)
     all_goals (apply d_done; (case hr => kernel_rfl))
     refine v_ret [(cb, _)] (outsA2 rfl rfl rfl) (by repeat (first | exact List.Sublist.refl _ | apply List.Sublist.cons | fail)) ?_
     refine ⟨?_, rfl⟩
     simp [numR, numF, isNum, hasOf, Cm.num, dec_eq, *])
  all_goals
    (refine d_start _ (by kernel_rfl) (by kernel_rfl) (fun _ he => he) ?_
     all_goals (first | (apply d_take 0; (case hi => rfl); (case hop => first | (apply PureOp.read; apply p_move <;> rfl)); (case hf => kernel_rfl); (case hr => kernel_rfl); (case hd => rfl)) | fail)
     all_goals (first | (apply d_take 1; (case hi => rfl); (case hop => first | (apply PureOp.read; apply p_nilCheck <;> rfl)); (case hf => kernel_rfl); (case hr => kernel_rfl); (case hd => rfl)) | fail)
     all_goals (first | (apply d_take 2; (case hi => rfl); (case hop => first   | (apply r_loadNo; (case hx => rfl); (case h => (repeat (fail))); (case hd => (repeat (fail))); (case hn => rfl)) | (apply r_load1; rfl; (apply Cell.own; (case h => (repeat (first | exact List.Mem.head _ | apply List.Mem.tail | fail))); rfl)) | (apply r_loadN; rfl; (apply CellsAt.own; (case h => (repeat (fail)))); rfl)); (case hf => kernel_rfl); (case hr => kernel_rfl); (case hd => rfl)) | fail)
     all_goals (first | (apply d_take 3; (case hi => rfl); (case hop => first | (apply PureOp.read; apply p_ge <;> rfl)); (case hf => kernel_rfl); (case hr => kernel_rfl); (case hd => rfl)) | fail)
     all_goals (first | (apply d_take 4; (case hi => rfl); (case hop => first | (apply PureOp.read; apply p_move <;> rfl)); (case hf => kernel_rfl); (case hr => kernel_rfl); (case hd => rfl)) | fail)
     all_goals (try (apply d_guardB 5; (case hi => rfl); (case hgd => rfl); (case h1 => rfl); (case h2 => first | rfl); all_goals (intro h; (try simp only [reduceCtorEq, dec_true, dec_false, decide_eq_true_eq, decide_eq_false_iff_not, Bool.not_eq_true', Bool.not_eq_false', Option.isNone_iff_eq_none, beq_true, beq_false, beq_iff_eq, beq_eq_false_iff_ne, ne_eq, decide_eq_decide, Bool.not_eq_true, Bool.not_eq_false, Decidable.not_not] at h); first | skip)))
     all_goals (first | (apply d_pass 5; (case hi => rfl); (case hg => rfl); (case hn => rfl); (case hf => kernel_rfl); (case hr => kernel_rfl); (case hd => rfl)) | (apply d_takeG 5; (case hi => rfl); (case hg => rfl); (case hop => first | (apply PureOp.read; apply p_move <;> rfl)); (case hf => kernel_rfl); (case hr => kernel_rfl); (case hd => rfl)) | fail)
     all_goals (try (apply d_guardB 6; (case hi => rfl); (case hgd => rfl); (case h1 => rfl); (case h2 => first | rfl); all_goals (intro h; (try simp only [reduceCtorEq, dec_true, dec_false, decide_eq_true_eq, decide_eq_false_iff_not, Bool.not_eq_true', Bool.not_eq_false', Option.isNone_iff_eq_none, beq_true, beq_false, beq_iff_eq, beq_eq_false_iff_ne, ne_eq, decide_eq_decide, Bool.not_eq_true, Bool.not_eq_false, Decidable.not_not] at h); first | done | skip)))
     all_goals (first | (apply d_pass 6; (case hi => rfl); (case hg => rfl); (case hn => rfl); (case hf => kernel_rfl); (case hr => kernel_rfl); (case hd => rfl)) | (apply d_takeG 6; (case hi => rfl); (case hg => rfl); (case hop => first | (apply PureOp.read; apply p_nilCheck <;> rfl)); (case hf => kernel_rfl); (case hr => kernel_rfl); (case hd => rfl)) | fail)
     all_goals (try (apply d_guardB 7; (case hi => rfl); (case hgd => rfl); (case h1 => rfl); (case h2 => first | rfl); all_goals (intro h; (try simp only [reduceCtorEq, dec_true, dec_false, decide_eq_true_eq, decide_eq_false_iff_not, Bool.not_eq_true', Bool.not_eq_false', Option.isNone_iff_eq_none, beq_true, beq_false, beq_iff_eq, beq_eq_false_iff_ne, ne_eq, decide_eq_decide, Bool.not_eq_true, Bool.not_eq_false, Decidable.not_not] at h); first | done | skip)))
     all_goals (first | (apply d_pass 7; (case hi => rfl); (case hg => rfl); (case hn => rfl); (case hf => kernel_rfl); (case hr => kernel_rfl); (case hd => rfl)) | (apply d_takeG 7; (case hi => rfl); (case hg => rfl); (case hop => first   | (apply r_loadNo; (case hx => rfl); (case h => (repeat (fail))); (case hd => (repeat (fail))); (case hn => rfl)) | (apply r_load1; rfl; (apply Cell.own; (case h => (repeat (first | exact List.Mem.head _ | apply List.Mem.tail | fail))); rfl)) | (apply r_loadN; rfl; (apply CellsAt.own; (case h => (repeat (fail)))); rfl)); (case hf => kernel_rfl); (case hr => kernel_rfl); (case hd => rfl)) | fail)
     all_goals (try (apply d_guardB 8; (case hi => rfl); (case hgd => rfl); (case h1 => rfl); (case h2 => first | rfl); all_goals (intro h; (try simp only [reduceCtorEq, dec_true, dec_false, decide_eq_true_eq, decide_eq_false_iff_not, Bool.not_eq_true', Bool.not_eq_false', Option.isNone_iff_eq_none, beq_true, beq_false, beq_iff_eq, beq_eq_false_iff_ne, ne_eq, decide_eq_decide, Bool.not_eq_true, Bool.not_eq_false, Decidable.not_not] at h); first | done | skip)))
     all_goals (first | (apply d_pass 8; (case hi => rfl); (case hg => rfl); (case hn => rfl); (case hf => kernel_rfl); (case hr => kernel_rfl); (case hd => rfl)) | (apply d_takeG 8; (case hi => rfl); (case hg => rfl); (case hop => first | (apply PureOp.read; apply p_fieldAddrB <;> rfl) | fail); (case hf => kernel_rfl); (case hr => kernel_rfl); (case hd => rfl)) | fail)
     all_goals (try (apply d_guardB 9; (case hi => rfl); (case hgd => rfl); (case h1 => rfl); (case h2 => first | rfl); all_goals (intro h; (try simp only [reduceCtorEq, dec_true, dec_false, decide_eq_true_eq, decide_eq_false_iff_not, Bool.not_eq_true', Bool.not_eq_false', Option.isNone_iff_eq_none, beq_true, beq_false, beq_iff_eq, beq_eq_false_iff_ne, ne_eq, decide_eq_decide, Bool.not_eq_true, Bool.not_eq_false, Decidable.not_not] at h); first | done | skip)))
     all_goals (first | (apply d_pass 9; (case hi => rfl); (case hg => rfl); (case hn => rfl); (case hf => kernel_rfl); (case hr => kernel_rfl); (case hd => rfl)) | (apply d_takeG 9; (case hi => rfl); (case hg => rfl); (case hop => first   | (apply r_loadNo; (case hx => rfl); (case h => (repeat (fail))); (case hd => (repeat (fail))); (case hn => rfl)) | (apply r_load1; rfl; (apply Cell.own; (case h => (repeat (first | exact List.Mem.head _ | fail))); rfl)) | (apply r_loadN; rfl; (apply CellsAt.own; (case h => (repeat (fail)))); rfl)); (case hf => kernel_rfl); (case hr => kernel_rfl); (case hd => rfl)) | fail)
     all_goals (try (apply d_guardB 10; (case hi => rfl); (case hgd => rfl); (case h1 => rfl); (case h2 => first | rfl); all_goals (intro h; (try simp only [reduceCtorEq, dec_true, dec_false, decide_eq_true_eq, decide_eq_false_iff_not, Bool.not_eq_true', Bool.not_eq_false', Option.isNone_iff_eq_none, beq_true, beq_false, beq_iff_eq, beq_eq_false_iff_ne, ne_eq, decide_eq_decide, Bool.not_eq_true, Bool.not_eq_false, Decidable.not_not] at h); first | done | skip)))
     all_goals (first | (apply d_pass 10; (case hi => rfl); (case hg => rfl); (case hn => rfl); (case hf => kernel_rfl); (case hr => kernel_rfl); (case hd => rfl)) | (apply d_takeG 10; (case hi => rfl); (case hg => rfl); (case hop => first | (apply PureOp.read; apply p_le <;> rfl)); (case hf => kernel_rfl); (case hr => kernel_rfl); (case hd => rfl)) | fail)
     all_goals (first | (apply d_take 11; (case hi => rfl); (case hop => first | (apply PureOp.read; apply p_pickT <;> rfl) | (apply PureOp.read; apply p_pickF <;> rfl) | fail); (case hf => kernel_rfl); (case hr => kernel_rfl); (case hd => rfl)) | fail)
     all_goals (first | (apply d_take 12; (case hi => rfl); (case hop => first | (apply PureOp.read; apply p_assign <;> rfl)); (case hf => kernel_rfl); (case hr => kernel_rfl); (case hd => rfl)) | fail)
     all_goals (first | (apply d_take 13; (case hi => rfl); (case hop => first | (apply PureOp.read; apply p_assign <;> rfl)); (case hf => kernel_rfl); (case hr => kernel_rfl); (case hd => rfl)) | fail)
     all_goals (apply d_done; (case hr => kernel_rfl))
     all_goals
       (refine v_ret [(cb, _)] (outsA2 rfl rfl rfl) (by repeat (first | exact List.Sublist.refl _ | apply List.Sublist.cons | fail)) ?_
        refine ⟨?_, rfl⟩
        simp [numR, numF, isNum, hasOf, mostOf, Cm.num, dec_eq, *]))
theorem text_s {G : GH} (hT : TabsG G) (c : Cm) (hk : c.key.size ≤ maxLen) (hv : c.val.size ≤ maxLen) (ho : c.old.size ≤ maxLen) (f : Int) (cb j : Nat) (hj : j < 6) : Con Tryd.prog 142 #[.agg (partL j).toArray, .pointer (some ⟨cb, 0, none⟩), .int .i64 f] G [(cb, .cells c.cells.toArray 27 (0, 0))]
    (Keeps (.tuple [.bool (txtT c f j), .bool (txtF c f j)].toArray) G [(cb, .cells c.cells.toArray 27 (0, 0))]) := by
  apply Con.keeps
  unfold Cm.cells
  simp only [maxLen] at hk hv ho
  refine v_enter Tryd.func142 rfl Tryd.ntmps142 rfl (fun B => ?_)
  obtain rfl | rfl | rfl | rfl | rfl | rfl : j = 0 ∨ j = 1 ∨ j = 2 ∨ j = 3 ∨ j = 4 ∨ j = 5 := by omega
  all_goals
    repeat' (first | apply v_seq | apply v_region | apply v_nil | apply v_skip | (apply v_pure; (case hop => first | (apply p_move <;> rfl) | (apply p_eq <;> rfl) | (apply p_assign <;> rfl) | (apply p_not <;> rfl) | (apply p_fieldAddrB <;> rfl) | (apply p_extract0 <;> rfl) | (apply p_extract1 <;> rfl) | (apply p_assertOk <;> rfl) | (apply p_assertNo <;> rfl) | (apply p_and64 <;> rfl) | fail); (case hd => rfl)) | (apply v_condT; (case hc => rfl)) | (apply v_condF; (case hc => rfl)) | (apply v_cond; (case hc => rfl); all_goals (intro h; (try simp only [reduceCtorEq, dec_true, dec_false, decide_eq_true_eq, decide_eq_false_iff_not, Bool.not_eq_true', Bool.not_eq_false', Option.isNone_iff_eq_none, beq_true, beq_false, beq_iff_eq, beq_eq_false_iff_ne, ne_eq, decide_eq_decide, Bool.not_eq_true, Bool.not_eq_false, Decidable.not_not] at h); first | skip)) | (apply v_callFJ0 (hs := at1_s _ cb); (case hx => rfl); (case ha => rfl); (case hd => rfl)) | (apply v_callFJ0 (hs := at2_s _ cb); (case hx => rfl); (case ha => rfl); (case hd => rfl)) | (apply v_callFJ0 (hs := at3_s _ cb); (case hx => rfl); (case ha => rfl); (case hd => rfl)) | (apply v_callFJ0 (hs := at4_s _ cb); (case hx => rfl); (case ha => rfl); (case hd => rfl)) | (apply v_callFJ0 (hs := at5_s _ cb); (case hx => rfl); (case ha => rfl); (case hd => rfl)) | (apply v_callFJ0 (hs := at6_s _ cb); (case hx => rfl); (case ha => rfl); (case hd => rfl)) | (apply v_read; (case hop => first | (apply r_load1; rfl; (apply Cell.own; (case h => (repeat (first | exact List.Mem.head _ | fail))); rfl)) | fail); (case hd => rfl)) | (apply v_box; (case hx => rfl); (case hz => rfl); (case hd => rfl); intro b) | fail)
  all_goals try
    (refine v_ret [(cb, _)] (outsA2 rfl rfl rfl) (by repeat (first | exact List.Sublist.refl _ | apply List.Sublist.cons | fail)) ?_
     exact ⟨rfl, rfl⟩)
  all_goals try
    (refine d_start _ (by kernel_rfl) (by kernel_rfl) (fun _ he => he) ?_
     all_goals (first | (apply d_take 0; (case hi => rfl); (case hop => first | (apply PureOp.read; apply p_move <;> rfl)); (case hf => kernel_rfl); (case hr => kernel_rfl); (case hd => rfl)) | fail)
     all_goals (first | (apply d_take 1; (case hi => rfl); (case hop => first | (apply PureOp.read; apply p_nilCheck <;> rfl)); (case hf => kernel_rfl); (case hr => kernel_rfl); (case hd => rfl)) | fail)
     all_goals (first | (apply d_take 2; (case hi => rfl); (case hop => first   | (apply r_loadNo; (case hx => rfl); (case h => (repeat (fail))); (case hd => (repeat (fail))); (case hn => rfl)) | (apply r_load1; rfl; (apply Cell.own; (case h => (repeat (first | exact List.Mem.head _ | apply List.Mem.tail | fail))); rfl)) | (apply r_loadN; rfl; (apply CellsAt.own; (case h => (repeat (fail)))); rfl)); (case hf => kernel_rfl); (case hr => kernel_rfl); (case hd => rfl)) | fail)
     all_goals (first | (apply d_take 3; (case hi => rfl); (case hop => first | (apply PureOp.read; apply p_eqS <;> rfl) | fail); (case hf => kernel_rfl); (case hr => kernel_rfl); (case hd => rfl)) | fail)
     all_goals (first | (apply d_take 4; (case hi => rfl); (case hop => first | (apply PureOp.read; apply p_assign <;> rfl)); (case hf => kernel_rfl); (case hr => kernel_rfl); (case hd => rfl)) | fail)
     all_goals (first | (apply d_take 5; (case hi => rfl); (case hop => first | (apply PureOp.read; apply p_assign <;> rfl)); (case hf => kernel_rfl); (case hr => kernel_rfl); (case hd => rfl)) | fail)
     all_goals (apply d_done; (case hr => kernel_rfl))
     refine v_ret [(cb, _)] (outsA2 rfl rfl rfl) (by repeat (first | exact List.Sublist.refl _ | apply List.Sublist.cons | fail)) ?_
     refine ⟨?_, rfl⟩
     simp [txtT, txtF, isNum, hasOf, Cm.txt, dec_nil, *])
  all_goals
    (refine d_start _ (by kernel_rfl) (by kernel_rfl) (fun _ he => he) ?_
     all_goals (first | (apply d_take 0; (case hi => rfl); (case hop => first | (apply PureOp.read; apply p_fieldAddrB <;> rfl) | fail); (case hf => kernel_rfl); (case hr => kernel_rfl); (case hd => rfl)) | fail)
     all_goals (first | (apply d_take 1; (case hi => rfl); (case hop => first   | (apply r_loadNo; (case hx => rfl); (case h => (repeat (fail))); (case hd => (repeat (fail))); (case hn => rfl)) | (apply r_load1; rfl; (apply Cell.own; (case h => (repeat (first | exact List.Mem.head _ | fail))); rfl)) | (apply r_loadN; rfl; (apply CellsAt.own; (case h => (repeat (fail)))); rfl)); (case hf => kernel_rfl); (case hr => kernel_rfl); (case hd => rfl)) | fail)
     all_goals (first | (apply d_take 2; (case hi => rfl); (case hop => first | (apply PureOp.read; apply p_move <;> rfl)); (case hf => kernel_rfl); (case hr => kernel_rfl); (case hd => rfl)) | fail)
     all_goals (first | (apply d_take 3; (case hi => rfl); (case hop => first | (apply PureOp.read; apply p_nilCheck <;> rfl)); (case hf => kernel_rfl); (case hr => kernel_rfl); (case hd => rfl)) | fail)
     all_goals (first | (apply d_take 4; (case hi => rfl); (case hop => first   | (apply r_loadNo; (case hx => rfl); (case h => (repeat (fail))); (case hd => (repeat (fail))); (case hn => rfl)) | (apply r_load1; rfl; (apply Cell.own; (case h => (repeat (first | exact List.Mem.head _ | apply List.Mem.tail | fail))); rfl)) | (apply r_loadN; rfl; (apply CellsAt.own; (case h => (repeat (fail)))); rfl)); (case hf => kernel_rfl); (case hr => kernel_rfl); (case hd => rfl)) | fail)
     all_goals (first | (apply d_callJ0 5 (hs := (key_s (s := c.key) hT (by omega))); (case hi => rfl); (case hr => kernel_rfl); (case hx => rfl); (case ha => rfl); (case hd => rfl)) | (apply d_callJ0 5 (hs := (val_s (s := c.old) hT (by omega))); (case hi => rfl); (case hr => kernel_rfl); (case hx => rfl); (case ha => rfl); (case hd => rfl)) | (apply d_callJ0 5 (hs := (val_s (s := c.val) hT (by omega))); (case hi => rfl); (case hr => kernel_rfl); (case hx => rfl); (case ha => rfl); (case hd => rfl)) | fail)
     all_goals (first | (apply d_take 6; (case hi => rfl); (case hop => first | (apply PureOp.read; apply p_assign <;> rfl)); (case hf => kernel_rfl); (case hr => kernel_rfl); (case hd => rfl)) | fail)
     all_goals (first | (apply d_take 7; (case hi => rfl); (case hop => first | (apply PureOp.read; apply p_assign <;> rfl)); (case hf => kernel_rfl); (case hr => kernel_rfl); (case hd => rfl)) | fail)
     all_goals (apply d_done; (case hr => kernel_rfl))
     all_goals
       (refine v_ret [(cb, _)] (outsA2 rfl rfl rfl) (by repeat (first | exact List.Sublist.refl _ | apply List.Sublist.cons | fail)) ?_
        refine ⟨?_, rfl⟩
        simp [txtT, txtF, isNum, hasOf, isTxt, Cm.txt, dec_nil, *]))
end Go.Proofs.YtnoiahlpmgbhfaaDoor
/-
  cmd (layer 8), the second part: what is wrong with a command.
-/
set_option linter.unusedSimpArgs false
set_option linter.unusedVariables false
namespace Go.Proofs.YtnoiahlpmgbhfaaDoor
open Go.Vx Go.ChangeShapes Go.WideShapes Go.ChangeAt Go.RowKit
def allB (g : Nat → Bool) : Nat → Bool
  | 0 => true
  | k + 1 => allB g k && g k
def allB2 (g h : Nat → Bool) : Nat → Bool
  | 0 => true
  | k + 1 => (allB2 g h k && g k) && h k
noncomputable def cmdI (c : Cm) : Int :=
  if (cmdFields c.kind).2 = false then 5
  else if allB (numR c (cmdFields c.kind).1) 6 = false then 6
  else if allB (txtT c (cmdFields c.kind).1) 6 = false then 7
  else if allB2 (numF c (cmdFields c.kind).1) (txtF c (cmdFields c.kind).1) 6 = false then 3 else 0
theorem partsL_at {k : Nat} (hk : k < 6) : (partsL.drop (k * 4)).take 4 = partL k := by
  obtain rfl | rfl | rfl | rfl | rfl | rfl : k = 0 ∨ k = 1 ∨ k = 2 ∨ k = 3 ∨ k = 4 ∨ k = 5 := by omega
  all_goals rfl
theorem partsG {G : GH} {b : Nat} {e : TypeId} (h : G b = some (.cells partsL.toArray e (0, 0))) {k : Nat} (hk : k < 6) : CellsG G ((⟨b, 0, none⟩ : Addr).add (k * 4)) (partL k) := by
  intro j v hv
  rw [add_mk, add_mk, Nat.zero_add]
  rw [← partsL_at hk, List.getElem?_take] at hv
  split at hv
  · rw [List.getElem?_drop] at hv
    simp [GH.cell?, h, hv]
  · cases hv
theorem cmdCheck_s {G : GH} (hT : TabsG G) (c : Cm) (hc : c.ok) : Con Tryd.prog 101 #[.agg c.cells.toArray] G [] (fun r _ μ' => r = .int .i64 (cmdI c) ∧ μ' = []) := by
  obtain ⟨hk1, hc1, hs1, hk, hv, ho, hn1⟩ := id hc
  refine v_enter Tryd.func101 rfl Tryd.ntmps101 rfl (fun B => ?_)
  obtain ⟨f, is, hf⟩ : ∃ f is, cmdFields c.kind = (f, is) := ⟨_, _, rfl⟩
  have hfs := fields_s G c.kind
  rw [hf] at hfs
  repeat' (first | apply v_seq | apply v_region | apply v_nil | apply v_skip | (apply v_pure; (case hop => first | (apply p_move <;> rfl) | (apply p_assign <;> rfl) | (apply p_not <;> rfl) | (apply p_fieldAddrB <;> rfl) | (apply p_extract0 <;> rfl) | (apply p_extract1 <;> rfl) | fail); (case hd => rfl)) | (apply v_cond; (case hc => rfl); all_goals (intro h; (try simp only [reduceCtorEq, dec_true, dec_false, decide_eq_true_eq, decide_eq_false_iff_not, Bool.not_eq_true', Bool.not_eq_false', Option.isNone_iff_eq_none, beq_true, beq_false, beq_iff_eq, beq_eq_false_iff_ne, ne_eq, decide_eq_decide, Bool.not_eq_true, Bool.not_eq_false, Decidable.not_not] at h); first | skip)) | (apply v_box (zs := c.cells); (case hx => rfl); (case hz => rfl); (case hd => rfl); intro cb) | (apply v_callJ (hs := hfs); (case ha => rfl); (case hd => rfl)) | (apply v_read; (case hop => first | (apply r_load1; rfl; (apply Cell.own; (case h => (repeat (first | exact List.Mem.head _ | fail))); rfl)) | fail); (case hd => rfl)) | fail)
  · refine v_ret [] (outsA1 rfl rfl) (by repeat (first | exact List.nil_sublist _ | fail)) ?_
    refine ⟨?_, rfl⟩
    rw [cmdI, hf, if_pos (by assumption)]
  refine v_call (μ1 := []) (μ2 := _) rfl (parts_s G) (List.Perm.refl _) rfl ?_
  rintro r G' μ1 - ⟨rfl, pb, rfl, rfl⟩
  refine v_frz [(pb, _)] (by repeat (first | exact PickA.here _ | fail)) ?_
  intro G1 hle1 hG1
  have hpb := hG1 pb _ (List.Mem.head _)
  have hT1 := hT.le hle1
  repeat' (first | apply v_nil | apply v_block | (apply v_pure; (case hop => first | (apply p_move <;> rfl) | (apply p_lenSlice <;> rfl) | fail); (case hd => rfl)) | fail)
  refine v_loop [24, 23, 22, 5, 6, 7, 1, 3] (fun us G' μ' => G' = G1 ∧ μ' = [(cb, .cells c.cells.toArray 27 (0, 0))] ∧ ∃ (k : Nat) (R T F : Bool), us = [Value.int .i64 (k : Int), .int .i64 6, .slice (some ⟨pb, 0, none⟩) 6 6, .bool R, .bool T, .bool F, .pointer (some ⟨cb, 0, none⟩), .int .i64 f] ∧ k ≤ 6 ∧ R = allB (numR c f) k ∧ T = allB (txtT c f) k ∧ F = allB2 (numF c f) (txtF c f) k) (fun us => 7 - (headI us).toNat) rfl ⟨rfl, rfl, 0, true, true, true, rfl, by omega, rfl, rfl, rfl⟩ ?_
  rintro us G' μ' ⟨rfl, rfl, k, R, T, F, rfl, hk6, hR, hTt, hF⟩
  by_cases hlt : k < 6
  · have hnum := number_s G' c f cb k hlt
    have htxt := text_s hT1 c hk hv ho f cb k hlt
    have hpk := partsG hpb hlt
    have e1 : allB (numR c f) (k + 1) = (R && numR c f k) := by rw [hR]; rfl
    have e2 : allB (txtT c f) (k + 1) = (T && txtT c f k) := by rw [hTt]; rfl
    have e3 : allB2 (numF c f) (txtF c f) (k + 1) = ((F && numF c f k) && txtF c f k) := by rw [hF]; rfl
    generalize numR c f k = a1 at *
    generalize numF c f k = a2 at *
    generalize txtT c f k = a3 at *
    generalize txtF c f k = a4 at *
    clear hR hTt hF
    obtain rfl | rfl | rfl | rfl | rfl | rfl : k = 0 ∨ k = 1 ∨ k = 2 ∨ k = 3 ∨ k = 4 ∨ k = 5 := by omega
    all_goals
      (repeat' (first | (apply v_guardM; (case h1 => rfl); (case h2 => rfl); (case hop => (apply p_move; rfl)); (case hd => rfl)) | apply v_seq | apply v_region | apply v_nil | apply v_skip | apply v_block | apply v_blk | (apply v_pure; (case hop => first | (apply p_move <;> rfl) | (apply p_lt <;> rfl) | (apply p_assign <;> rfl) | (apply p_extract0 <;> rfl) | (apply p_extract1 <;> rfl) | (apply p_add; (case hx => rfl); (case hy => rfl); (case h => omega)) | (apply p_indexAddr; (case hx => rfl); (case hi => rfl); (case h0 => omega); (case h => omega)) | (apply p_pickAnd <;> rfl) | fail); (case hd => rfl)) | (apply v_cond; (case hc => rfl); all_goals (intro h; (try simp only [reduceCtorEq, dec_true, dec_false, decide_eq_true_eq, decide_eq_false_iff_not, Bool.not_eq_true', Bool.not_eq_false', Option.isNone_iff_eq_none, beq_true, beq_false, beq_iff_eq, beq_eq_false_iff_ne, ne_eq, decide_eq_decide, Bool.not_eq_true, Bool.not_eq_false, Decidable.not_not] at h); first | (exfalso; omega) | skip)) | (apply v_read; (case hop => (apply r_loadN; rfl; exact CellsAt.frozen hpk; rfl)); (case hd => rfl)) | (apply v_callK (hs := hnum); (case ha => rfl); (case hp => first | exact (Pick.perm (by repeat (first | exact Pick.here _ | apply Pick.there | fail))) | fail); (case hd => rfl)) | (apply v_callK (hs := htxt); (case ha => rfl); (case hp => first | exact (Pick.perm (by repeat (first | exact Pick.here _ | apply Pick.there | fail))) | fail); (case hd => rfl)) | (apply v_read; (case hop => first | (apply r_loadNo; (case hx => rfl); (case h => (repeat (first | exact List.Mem.head _ | fail))); (case hd => (repeat (first | with_reducible exact dt_nil | apply dt_here | fail))); (case hn => rfl)) | fail); (case hd => rfl)) | (apply v_alloc; (case hz => rfl); (case hd => rfl); intro b) | (apply v_store; (case hp => rfl); (case hx => rfl); (case hc => rfl); (case hsz => rfl); (case h1 => rfl); (case hb => (repeat (first | exact List.Mem.head _ | fail))); (case hfit => first | exact Nat.le_of_ble_eq_true rfl | fail); (case hov => (first | ((repeat (first | with_reducible exact ov_nil | apply ov_cons | fail)); done) | fail)); (case hu => repeat (first | exact Upd.here _ _ | fail))) | fail))
    all_goals
      (refine v_only [(cb, _)] (by repeat (first | exact PickA.last | apply PickA.cons | fail)) ?_
       refine v_again rfl ⟨rfl, rfl, _, _, _, _, ?_, ?_, e1.symm, e2.symm, e3.symm⟩ ?_
       · rfl
       · omega
       · simp [headI])
  · obtain rfl : k = 6 := by omega
    have his : is = true := by assumption
    subst his
    repeat' (first | apply v_seq | apply v_region | apply v_nil | apply v_skip | apply v_block | apply v_blk | (apply v_exit; (case hp => rfl)) | (apply v_pure; (case hop => first | (apply p_move <;> rfl) | (apply p_lt <;> rfl) | (apply p_assign <;> rfl) | (apply p_not <;> rfl) | fail); (case hd => rfl)) | (apply v_cond; (case hc => rfl); all_goals (intro h; (try simp only [reduceCtorEq, dec_true, dec_false, decide_eq_true_eq, decide_eq_false_iff_not, Bool.not_eq_true', Bool.not_eq_false', Option.isNone_iff_eq_none, beq_true, beq_false, beq_iff_eq, beq_eq_false_iff_ne, ne_eq, decide_eq_decide, Bool.not_eq_true, Bool.not_eq_false, Decidable.not_not] at h); first | (exfalso; omega) | skip)) | fail)
    all_goals
      (refine v_ret [] (outsA1 rfl rfl) (by repeat (first | exact List.nil_sublist _ | fail)) ?_
       refine ⟨?_, rfl⟩
       rw [cmdI, hf, if_neg (by simp)]
       simp only [← hR, ← hTt, ← hF]
       clear hR hTt hF
       simp [*])
/-! ### The reference -/
theorem band_0_1 : band 0 1 = 0 := by decide
theorem band_0_2 : band 0 2 = 0 := by decide
theorem band_0_4 : band 0 4 = 0 := by decide
theorem band_0_8 : band 0 8 = 0 := by decide
theorem band_0_16 : band 0 16 = 0 := by decide
theorem band_3_1 : band 3 1 = 1 := by decide
theorem band_3_2 : band 3 2 = 2 := by decide
theorem band_3_4 : band 3 4 = 0 := by decide
theorem band_3_8 : band 3 8 = 0 := by decide
theorem band_3_16 : band 3 16 = 0 := by decide
theorem band_11_1 : band 11 1 = 1 := by decide
theorem band_11_2 : band 11 2 = 2 := by decide
theorem band_11_4 : band 11 4 = 0 := by decide
theorem band_11_8 : band 11 8 = 8 := by decide
theorem band_11_16 : band 11 16 = 0 := by decide
theorem band_15_1 : band 15 1 = 1 := by decide
theorem band_15_2 : band 15 2 = 2 := by decide
theorem band_15_4 : band 15 4 = 4 := by decide
theorem band_15_8 : band 15 8 = 8 := by decide
theorem band_15_16 : band 15 16 = 0 := by decide
theorem band_16_1 : band 16 1 = 0 := by decide
theorem band_16_2 : band 16 2 = 0 := by decide
theorem band_16_4 : band 16 4 = 0 := by decide
theorem band_16_8 : band 16 8 = 0 := by decide
theorem band_16_16 : band 16 16 = 16 := by decide
theorem owned_s (G : GH) (k : Int) : Con Tryd.prog 97 #[.int .i64 k] G [] (Just (.bool (decide (2 ≤ k ∧ k ≤ 5))) G) := by
  refine v_enter Tryd.func97 rfl Tryd.ntmps97 rfl (fun B => ?_)
  repeat' (first | apply v_seq | apply v_region | apply v_nil | (apply v_take; (case hg => rfl)) | (apply v_pass; (case hg => rfl); (case hn => rfl); (case hd => rfl)) | (apply v_pure; (case hop => first | (apply p_move <;> rfl) | (apply p_le <;> rfl) | (apply p_ge <;> rfl) | (apply p_assign <;> rfl) | (apply p_pickT <;> rfl) | (apply p_pickF <;> rfl) | fail); (case hd => rfl)) | (apply v_guardB; (case h1 => rfl); (case h2 => rfl); all_goals (intro h; (try simp only [reduceCtorEq, dec_true, dec_false, decide_eq_true_eq, decide_eq_false_iff_not, Bool.not_eq_true', Bool.not_eq_false', Option.isNone_iff_eq_none, beq_true, beq_false, beq_iff_eq, beq_eq_false_iff_ne, ne_eq, decide_eq_decide, Bool.not_eq_true, Bool.not_eq_false, Decidable.not_not] at h); first | skip)) | fail)
  all_goals
    (refine v_ret [] (outsA1 rfl rfl) (by repeat (first | exact List.Sublist.refl _ | fail)) ?_
     refine ⟨?_, rfl, rfl⟩
     first
       | (rw [decide_eq_false (by omega)])
       | (by_cases h5 : k ≤ 5
          · rw [dec_pos h5, decide_eq_true (by omega)]
          · rw [dec_neg h5, decide_eq_false (by omega)]))
theorem member_s (G : GH) (k : Int) : Con Tryd.prog 99 #[.int .i64 k] G [] (Just (.bool (decide (k = 7 ∨ k = 8))) G) := by
  refine v_enter Tryd.func99 rfl Tryd.ntmps99 rfl (fun B => ?_)
  repeat' (first | apply v_seq | apply v_region | apply v_nil | (apply v_take; (case hg => rfl)) | (apply v_pass; (case hg => rfl); (case hn => rfl); (case hd => rfl)) | (apply v_pure; (case hop => first | (apply p_move <;> rfl) | (apply p_eq <;> rfl) | (apply p_assign <;> rfl) | (apply p_pickT <;> rfl) | (apply p_pickF <;> rfl) | fail); (case hd => rfl)) | (apply v_guardB; (case h1 => rfl); (case h2 => rfl); all_goals (intro h; (try simp only [reduceCtorEq, dec_true, dec_false, decide_eq_true_eq, decide_eq_false_iff_not, Bool.not_eq_true', Bool.not_eq_false', Option.isNone_iff_eq_none, beq_true, beq_false, beq_iff_eq, beq_eq_false_iff_ne, ne_eq, decide_eq_decide, Bool.not_eq_true, Bool.not_eq_false, Decidable.not_not] at h); first | skip)) | fail)
  all_goals
    (refine v_ret [] (outsA1 rfl rfl) (by repeat (first | exact List.Sublist.refl _ | fail)) ?_
     refine ⟨?_, rfl, rfl⟩
     first
       | (rw [decide_eq_true (by omega)])
       | (by_cases h5 : k = 8
          · rw [dec_pos h5, decide_eq_true (by omega)]
          · rw [dec_neg h5, decide_eq_false (by omega)]))
noncomputable def cmdE (c : Cm) : Int :=
  if c.kind < 1 ∨ 8 < c.kind then 5
  else if ((2 ≤ c.kind ∧ c.kind ≤ 5) ∧ ¬ (1 ≤ c.client ∧ c.client ≤ 8 ∧ 1 ≤ c.seq ∧ c.seq ≤ 4294967296)) ∨ ((c.kind = 7 ∨ c.kind = 8) ∧ ¬ (1 ≤ c.node ∧ c.node ≤ 9)) then 6
  else if ((2 ≤ c.kind ∧ c.kind ≤ 5) ∧ keyB c.key = false) ∨ ((c.kind = 2 ∨ c.kind = 5) ∧ valB c.val = false) ∨ (c.kind = 5 ∧ valB c.old = false) then 7
  else if (¬ (2 ≤ c.kind ∧ c.kind ≤ 5) ∧ (c.client ≠ 0 ∨ c.seq ≠ 0 ∨ c.key.size ≠ 0)) ∨ (¬ (c.kind = 2 ∨ c.kind = 5) ∧ c.val.size ≠ 0) ∨ (c.kind ≠ 5 ∧ c.old.size ≠ 0) ∨ (¬ (c.kind = 7 ∨ c.kind = 8) ∧ c.node ≠ 0) then 3 else 0
theorem nil_iff {s : ByteArray} : s = { data := #[] } ↔ s.size = 0 := by
  constructor
  · intro h; rw [h]; rfl
  · intro h
    apply ByteArray.ext
    exact Array.eq_empty_of_size_eq_zero h
theorem ite6 {p : Bool} {a b : Int} {q : Prop} [Decidable q] (h : p = false ↔ q) : (if p = false then a else b) = (if q then a else b) := by
  by_cases hq : q
  · rw [if_pos hq, if_pos (h.2 hq)]
  · rw [if_neg hq, if_neg (fun e => hq (h.1 e))]
theorem cmdI_case {c : Cm} (f : Int) {q1 q2 q3 : Prop} [Decidable q1] [Decidable q2] [Decidable q3] (hf : cmdFields c.kind = (f, true)) (h1 : allB (numR c f) 6 = false ↔ q1) (h2 : allB (txtT c f) 6 = false ↔ q2) (h3 : allB2 (numF c f) (txtF c f) 6 = false ↔ q3) :
    (if (cmdFields c.kind).2 = false then (5 : Int) else if allB (numR c (cmdFields c.kind).1) 6 = false then 6 else if allB (txtT c (cmdFields c.kind).1) 6 = false then 7 else if allB2 (numF c (cmdFields c.kind).1) (txtF c (cmdFields c.kind).1) 6 = false then 3 else 0) = (if q1 then 6 else if q2 then 7 else if q3 then 3 else 0) := by
  rw [hf, if_neg (by simp), ite6 h1, ite6 h2, ite6 h3]
theorem cmdI_eq (c : Cm) : cmdI c = cmdE c := by
  obtain ⟨kind, client, seq, key, val, old, node⟩ := c
  by_cases hr : kind < 1 ∨ 8 < kind
  · have : cmdFields kind = (0, false) := by unfold cmdFields; rw [if_neg (by omega), if_neg (by omega), if_neg (by omega), if_neg (by omega), if_neg (by omega)]
    simp only [cmdI, cmdE, this, if_true]
    rw [if_pos hr]
  · unfold cmdI cmdE
    simp only
    rw [if_neg hr]
    obtain rfl | rfl | rfl | rfl | rfl | rfl | rfl | rfl : kind = 1 ∨ kind = 2 ∨ kind = 3 ∨ kind = 4 ∨ kind = 5 ∨ kind = 6 ∨ kind = 7 ∨ kind = 8 := by omega
    · refine cmdI_case (c := ⟨1, client, seq, key, val, old, node⟩) 0 rfl ?_ ?_ ?_
      · first | (simp [allB, allB2, numR, numF, txtT, txtF, isNum, hasOf, mostOf, isTxt, Cm.num, Cm.txt, band_0_1, band_0_2, band_0_4, band_0_8, band_0_16, band_3_1, band_3_2, band_3_4, band_3_8, band_3_16, band_11_1, band_11_2, band_11_4, band_11_8, band_11_16, band_15_1, band_15_2, band_15_4, band_15_8, band_15_16, band_16_1, band_16_2, band_16_4, band_16_8, band_16_16]; done) | fail
      · cases hk : keyB key <;> cases hv : valB val <;> cases ho : valB old <;> simp [hk, hv, ho, allB, allB2, numR, numF, txtT, txtF, isNum, hasOf, mostOf, isTxt, Cm.num, Cm.txt, band_0_1, band_0_2, band_0_4, band_0_8, band_0_16, band_3_1, band_3_2, band_3_4, band_3_8, band_3_16, band_11_1, band_11_2, band_11_4, band_11_8, band_11_16, band_15_1, band_15_2, band_15_4, band_15_8, band_15_16, band_16_1, band_16_2, band_16_4, band_16_8, band_16_16]
      · first | (simp [allB, allB2, numR, numF, txtT, txtF, isNum, hasOf, mostOf, isTxt, Cm.num, Cm.txt, band_0_1, band_0_2, band_0_4, band_0_8, band_0_16, band_3_1, band_3_2, band_3_4, band_3_8, band_3_16, band_11_1, band_11_2, band_11_4, band_11_8, band_11_16, band_15_1, band_15_2, band_15_4, band_15_8, band_15_16, band_16_1, band_16_2, band_16_4, band_16_8, band_16_16]; grind)
    · refine cmdI_case (c := ⟨2, client, seq, key, val, old, node⟩) 11 rfl ?_ ?_ ?_
      · first | (simp [allB, allB2, numR, numF, txtT, txtF, isNum, hasOf, mostOf, isTxt, Cm.num, Cm.txt, band_0_1, band_0_2, band_0_4, band_0_8, band_0_16, band_3_1, band_3_2, band_3_4, band_3_8, band_3_16, band_11_1, band_11_2, band_11_4, band_11_8, band_11_16, band_15_1, band_15_2, band_15_4, band_15_8, band_15_16, band_16_1, band_16_2, band_16_4, band_16_8, band_16_16]; done) | fail
      · cases hk : keyB key <;> cases hv : valB val <;> cases ho : valB old <;> simp [hk, hv, ho, allB, allB2, numR, numF, txtT, txtF, isNum, hasOf, mostOf, isTxt, Cm.num, Cm.txt, band_0_1, band_0_2, band_0_4, band_0_8, band_0_16, band_3_1, band_3_2, band_3_4, band_3_8, band_3_16, band_11_1, band_11_2, band_11_4, band_11_8, band_11_16, band_15_1, band_15_2, band_15_4, band_15_8, band_15_16, band_16_1, band_16_2, band_16_4, band_16_8, band_16_16]
      · first | (simp [allB, allB2, numR, numF, txtT, txtF, isNum, hasOf, mostOf, isTxt, Cm.num, Cm.txt, band_0_1, band_0_2, band_0_4, band_0_8, band_0_16, band_3_1, band_3_2, band_3_4, band_3_8, band_3_16, band_11_1, band_11_2, band_11_4, band_11_8, band_11_16, band_15_1, band_15_2, band_15_4, band_15_8, band_15_16, band_16_1, band_16_2, band_16_4, band_16_8, band_16_16]; grind)
    · refine cmdI_case (c := ⟨3, client, seq, key, val, old, node⟩) 3 rfl ?_ ?_ ?_
      · first | (simp [allB, allB2, numR, numF, txtT, txtF, isNum, hasOf, mostOf, isTxt, Cm.num, Cm.txt, band_0_1, band_0_2, band_0_4, band_0_8, band_0_16, band_3_1, band_3_2, band_3_4, band_3_8, band_3_16, band_11_1, band_11_2, band_11_4, band_11_8, band_11_16, band_15_1, band_15_2, band_15_4, band_15_8, band_15_16, band_16_1, band_16_2, band_16_4, band_16_8, band_16_16]; done) | fail
      · cases hk : keyB key <;> cases hv : valB val <;> cases ho : valB old <;> simp [hk, hv, ho, allB, allB2, numR, numF, txtT, txtF, isNum, hasOf, mostOf, isTxt, Cm.num, Cm.txt, band_0_1, band_0_2, band_0_4, band_0_8, band_0_16, band_3_1, band_3_2, band_3_4, band_3_8, band_3_16, band_11_1, band_11_2, band_11_4, band_11_8, band_11_16, band_15_1, band_15_2, band_15_4, band_15_8, band_15_16, band_16_1, band_16_2, band_16_4, band_16_8, band_16_16]
      · first | (simp [allB, allB2, numR, numF, txtT, txtF, isNum, hasOf, mostOf, isTxt, Cm.num, Cm.txt, band_0_1, band_0_2, band_0_4, band_0_8, band_0_16, band_3_1, band_3_2, band_3_4, band_3_8, band_3_16, band_11_1, band_11_2, band_11_4, band_11_8, band_11_16, band_15_1, band_15_2, band_15_4, band_15_8, band_15_16, band_16_1, band_16_2, band_16_4, band_16_8, band_16_16]; grind)
    · refine cmdI_case (c := ⟨4, client, seq, key, val, old, node⟩) 3 rfl ?_ ?_ ?_
      · first | (simp [allB, allB2, numR, numF, txtT, txtF, isNum, hasOf, mostOf, isTxt, Cm.num, Cm.txt, band_0_1, band_0_2, band_0_4, band_0_8, band_0_16, band_3_1, band_3_2, band_3_4, band_3_8, band_3_16, band_11_1, band_11_2, band_11_4, band_11_8, band_11_16, band_15_1, band_15_2, band_15_4, band_15_8, band_15_16, band_16_1, band_16_2, band_16_4, band_16_8, band_16_16]; done) | fail
      · cases hk : keyB key <;> cases hv : valB val <;> cases ho : valB old <;> simp [hk, hv, ho, allB, allB2, numR, numF, txtT, txtF, isNum, hasOf, mostOf, isTxt, Cm.num, Cm.txt, band_0_1, band_0_2, band_0_4, band_0_8, band_0_16, band_3_1, band_3_2, band_3_4, band_3_8, band_3_16, band_11_1, band_11_2, band_11_4, band_11_8, band_11_16, band_15_1, band_15_2, band_15_4, band_15_8, band_15_16, band_16_1, band_16_2, band_16_4, band_16_8, band_16_16]
      · first | (simp [allB, allB2, numR, numF, txtT, txtF, isNum, hasOf, mostOf, isTxt, Cm.num, Cm.txt, band_0_1, band_0_2, band_0_4, band_0_8, band_0_16, band_3_1, band_3_2, band_3_4, band_3_8, band_3_16, band_11_1, band_11_2, band_11_4, band_11_8, band_11_16, band_15_1, band_15_2, band_15_4, band_15_8, band_15_16, band_16_1, band_16_2, band_16_4, band_16_8, band_16_16]; grind)
    · refine cmdI_case (c := ⟨5, client, seq, key, val, old, node⟩) 15 rfl ?_ ?_ ?_
      · first | (simp [allB, allB2, numR, numF, txtT, txtF, isNum, hasOf, mostOf, isTxt, Cm.num, Cm.txt, band_0_1, band_0_2, band_0_4, band_0_8, band_0_16, band_3_1, band_3_2, band_3_4, band_3_8, band_3_16, band_11_1, band_11_2, band_11_4, band_11_8, band_11_16, band_15_1, band_15_2, band_15_4, band_15_8, band_15_16, band_16_1, band_16_2, band_16_4, band_16_8, band_16_16]; done) | fail
      · cases hk : keyB key <;> cases hv : valB val <;> cases ho : valB old <;> simp [hk, hv, ho, allB, allB2, numR, numF, txtT, txtF, isNum, hasOf, mostOf, isTxt, Cm.num, Cm.txt, band_0_1, band_0_2, band_0_4, band_0_8, band_0_16, band_3_1, band_3_2, band_3_4, band_3_8, band_3_16, band_11_1, band_11_2, band_11_4, band_11_8, band_11_16, band_15_1, band_15_2, band_15_4, band_15_8, band_15_16, band_16_1, band_16_2, band_16_4, band_16_8, band_16_16]
      · first | (simp [allB, allB2, numR, numF, txtT, txtF, isNum, hasOf, mostOf, isTxt, Cm.num, Cm.txt, band_0_1, band_0_2, band_0_4, band_0_8, band_0_16, band_3_1, band_3_2, band_3_4, band_3_8, band_3_16, band_11_1, band_11_2, band_11_4, band_11_8, band_11_16, band_15_1, band_15_2, band_15_4, band_15_8, band_15_16, band_16_1, band_16_2, band_16_4, band_16_8, band_16_16]; done) | fail
    · refine cmdI_case (c := ⟨6, client, seq, key, val, old, node⟩) 0 rfl ?_ ?_ ?_
      · first | (simp [allB, allB2, numR, numF, txtT, txtF, isNum, hasOf, mostOf, isTxt, Cm.num, Cm.txt, band_0_1, band_0_2, band_0_4, band_0_8, band_0_16, band_3_1, band_3_2, band_3_4, band_3_8, band_3_16, band_11_1, band_11_2, band_11_4, band_11_8, band_11_16, band_15_1, band_15_2, band_15_4, band_15_8, band_15_16, band_16_1, band_16_2, band_16_4, band_16_8, band_16_16]; done) | fail
      · cases hk : keyB key <;> cases hv : valB val <;> cases ho : valB old <;> simp [hk, hv, ho, allB, allB2, numR, numF, txtT, txtF, isNum, hasOf, mostOf, isTxt, Cm.num, Cm.txt, band_0_1, band_0_2, band_0_4, band_0_8, band_0_16, band_3_1, band_3_2, band_3_4, band_3_8, band_3_16, band_11_1, band_11_2, band_11_4, band_11_8, band_11_16, band_15_1, band_15_2, band_15_4, band_15_8, band_15_16, band_16_1, band_16_2, band_16_4, band_16_8, band_16_16]
      · first | (simp [allB, allB2, numR, numF, txtT, txtF, isNum, hasOf, mostOf, isTxt, Cm.num, Cm.txt, band_0_1, band_0_2, band_0_4, band_0_8, band_0_16, band_3_1, band_3_2, band_3_4, band_3_8, band_3_16, band_11_1, band_11_2, band_11_4, band_11_8, band_11_16, band_15_1, band_15_2, band_15_4, band_15_8, band_15_16, band_16_1, band_16_2, band_16_4, band_16_8, band_16_16]; grind)
    · refine cmdI_case (c := ⟨7, client, seq, key, val, old, node⟩) 16 rfl ?_ ?_ ?_
      · first | (simp [allB, allB2, numR, numF, txtT, txtF, isNum, hasOf, mostOf, isTxt, Cm.num, Cm.txt, band_0_1, band_0_2, band_0_4, band_0_8, band_0_16, band_3_1, band_3_2, band_3_4, band_3_8, band_3_16, band_11_1, band_11_2, band_11_4, band_11_8, band_11_16, band_15_1, band_15_2, band_15_4, band_15_8, band_15_16, band_16_1, band_16_2, band_16_4, band_16_8, band_16_16]; done) | fail
      · cases hk : keyB key <;> cases hv : valB val <;> cases ho : valB old <;> simp [hk, hv, ho, allB, allB2, numR, numF, txtT, txtF, isNum, hasOf, mostOf, isTxt, Cm.num, Cm.txt, band_0_1, band_0_2, band_0_4, band_0_8, band_0_16, band_3_1, band_3_2, band_3_4, band_3_8, band_3_16, band_11_1, band_11_2, band_11_4, band_11_8, band_11_16, band_15_1, band_15_2, band_15_4, band_15_8, band_15_16, band_16_1, band_16_2, band_16_4, band_16_8, band_16_16]
      · first | (simp [allB, allB2, numR, numF, txtT, txtF, isNum, hasOf, mostOf, isTxt, Cm.num, Cm.txt, band_0_1, band_0_2, band_0_4, band_0_8, band_0_16, band_3_1, band_3_2, band_3_4, band_3_8, band_3_16, band_11_1, band_11_2, band_11_4, band_11_8, band_11_16, band_15_1, band_15_2, band_15_4, band_15_8, band_15_16, band_16_1, band_16_2, band_16_4, band_16_8, band_16_16]; grind)
    · refine cmdI_case (c := ⟨8, client, seq, key, val, old, node⟩) 16 rfl ?_ ?_ ?_
      · first | (simp [allB, allB2, numR, numF, txtT, txtF, isNum, hasOf, mostOf, isTxt, Cm.num, Cm.txt, band_0_1, band_0_2, band_0_4, band_0_8, band_0_16, band_3_1, band_3_2, band_3_4, band_3_8, band_3_16, band_11_1, band_11_2, band_11_4, band_11_8, band_11_16, band_15_1, band_15_2, band_15_4, band_15_8, band_15_16, band_16_1, band_16_2, band_16_4, band_16_8, band_16_16]; done) | fail
      · cases hk : keyB key <;> cases hv : valB val <;> cases ho : valB old <;> simp [hk, hv, ho, allB, allB2, numR, numF, txtT, txtF, isNum, hasOf, mostOf, isTxt, Cm.num, Cm.txt, band_0_1, band_0_2, band_0_4, band_0_8, band_0_16, band_3_1, band_3_2, band_3_4, band_3_8, band_3_16, band_11_1, band_11_2, band_11_4, band_11_8, band_11_16, band_15_1, band_15_2, band_15_4, band_15_8, band_15_16, band_16_1, band_16_2, band_16_4, band_16_8, band_16_16]
      · first | (simp [allB, allB2, numR, numF, txtT, txtF, isNum, hasOf, mostOf, isTxt, Cm.num, Cm.txt, band_0_1, band_0_2, band_0_4, band_0_8, band_0_16, band_3_1, band_3_2, band_3_4, band_3_8, band_3_16, band_11_1, band_11_2, band_11_4, band_11_8, band_11_16, band_15_1, band_15_2, band_15_4, band_15_8, band_15_16, band_16_1, band_16_2, band_16_4, band_16_8, band_16_16]; grind)
end Go.Proofs.YtnoiahlpmgbhfaaDoor
/-
  cmd (layer 8), the third part: the reference says the same.
-/
set_option linter.unusedSimpArgs false
set_option linter.unusedVariables false
namespace Go.Proofs.YtnoiahlpmgbhfaaDoor
open Go.Vx Go.ChangeShapes Go.WideShapes Go.ChangeAt Go.RowKit
set_option maxHeartbeats 4000000 in
theorem refCmdCheck_s {G : GH} (c : Cm) (hc : c.ok) : Con Tryd.prog 67 #[.agg c.cells.toArray] G [] (fun r _ μ' => r = .int .i64 (cmdI c) ∧ μ' = []) := by
  obtain ⟨hk1, hc1, hs1, hk, hv, ho, hn1⟩ := id hc
  simp only [maxLen] at hk hv ho
  have qk := refKey_s (G := G) (s := c.key) (by omega)
  have qv := refVal_s (G := G) (s := c.val) (by omega)
  have qo := refVal_s (G := G) (s := c.old) (by omega)
  obtain ⟨kind, client, seq, key, val, old, node⟩ := c
  simp only at qk qv qo
  refine v_enter Tryd.func67 rfl Tryd.ntmps67 rfl (fun B => ?_)
  by_cases hr : kind < 1 ∨ 8 < kind
  · repeat' (first | apply v_seq | apply v_region | apply v_nil | (apply v_take; (case hg => rfl)) | (apply v_pass; (case hg => rfl); (case hn => rfl); (case hd => rfl)) | (apply v_pure; (case hop => first | (apply p_move <;> rfl) | (apply p_lt <;> rfl) | (apply p_gt <;> rfl) | (apply p_assign <;> rfl) | (apply p_pickT <;> rfl) | (apply p_pickF <;> rfl) | (apply p_fieldAddrB <;> rfl) | fail); (case hd => rfl)) | (apply v_condT; (case hc => rfl)) | (apply v_cond; (case hc => rfl); all_goals (intro h; (try simp only [reduceCtorEq, dec_true, dec_false, decide_eq_true_eq, decide_eq_false_iff_not, Bool.not_eq_true', Bool.not_eq_false', Option.isNone_iff_eq_none, beq_true, beq_false, beq_iff_eq, beq_eq_false_iff_ne, ne_eq, decide_eq_decide, Bool.not_eq_true, Bool.not_eq_false, Decidable.not_not] at h); first | (exfalso; omega) | skip)) | (apply v_guardB; (case h1 => rfl); (case h2 => rfl); all_goals (intro h; (try simp only [reduceCtorEq, dec_true, dec_false, decide_eq_true_eq, decide_eq_false_iff_not, Bool.not_eq_true', Bool.not_eq_false', Option.isNone_iff_eq_none, beq_true, beq_false, beq_iff_eq, beq_eq_false_iff_ne, ne_eq, decide_eq_decide, Bool.not_eq_true, Bool.not_eq_false, Decidable.not_not] at h); first | skip)) | (apply v_box (zs := Cm.cells ⟨kind, client, seq, key, val, old, node⟩); (case hx => rfl); (case hz => rfl); (case hd => rfl); intro cb) | (apply v_read; (case hop => first | (apply r_load1; rfl; (apply Cell.own; (case h => (repeat (first | exact List.Mem.head _ | fail))); rfl)) | fail); (case hd => rfl)) | fail)
    all_goals
      (refine v_ret [] (outsA1 rfl rfl) (by repeat (first | exact List.nil_sublist _ | fail)) ?_
       refine ⟨?_, rfl⟩
       have : cmdFields kind = (0, false) := by unfold cmdFields; rw [if_neg (by omega), if_neg (by omega), if_neg (by omega), if_neg (by omega), if_neg (by omega)]
       simp [cmdI, this])
  have qw := owned_s G kind
  have qm := member_s G kind
  obtain rfl | rfl | rfl | rfl | rfl | rfl | rfl | rfl : kind = 1 ∨ kind = 2 ∨ kind = 3 ∨ kind = 4 ∨ kind = 5 ∨ kind = 6 ∨ kind = 7 ∨ kind = 8 := by omega
  all_goals
    (first | rw [decide_eq_true (by omega)] at qw | rw [decide_eq_false (by omega)] at qw)
    (first | rw [decide_eq_true (by omega)] at qm | rw [decide_eq_false (by omega)] at qm)
    repeat' (first | apply v_seq | apply v_region | apply v_nil | apply v_skip | (apply v_take; (case hg => rfl)) | (apply v_pass; (case hg => rfl); (case hn => rfl); (case hd => rfl)) | (apply v_passN; (case hg => rfl); (case hn => rfl); (case hd => rfl)) | (apply v_pure; (case hop => first | (apply p_move <;> rfl) | (apply p_eqs <;> rfl) | (apply p_nes <;> rfl) | (apply p_eq <;> rfl) | (apply p_lt <;> rfl) | (apply p_gt <;> rfl) | (apply p_ne <;> rfl) | (apply p_assign <;> rfl) | (apply p_pickT <;> rfl) | (apply p_pickF <;> rfl) | (apply p_not <;> rfl) | (apply p_fieldAddrB <;> rfl) | (apply p_neS <;> rfl) | fail); (case hd => rfl)) | (apply v_condT; (case hc => rfl)) | (apply v_condF; (case hc => rfl)) | (apply v_cond; (case hc => rfl); all_goals (intro h; (try simp only [reduceCtorEq, dec_true, dec_false, decide_eq_true_eq, decide_eq_false_iff_not, Bool.not_eq_true', Bool.not_eq_false', Option.isNone_iff_eq_none, beq_true, beq_false, beq_iff_eq, beq_eq_false_iff_ne, ne_eq, decide_eq_decide, Bool.not_eq_true, Bool.not_eq_false, Decidable.not_not] at h); first | (exfalso; omega) | skip)) | (apply v_guardB; (case h1 => rfl); (case h2 => rfl); all_goals (intro h; (try simp only [reduceCtorEq, dec_true, dec_false, decide_eq_true_eq, decide_eq_false_iff_not, Bool.not_eq_true', Bool.not_eq_false', Option.isNone_iff_eq_none, beq_true, beq_false, beq_iff_eq, beq_eq_false_iff_ne, ne_eq, decide_eq_decide, Bool.not_eq_true, Bool.not_eq_false, Decidable.not_not] at h); first | (exfalso; omega) | skip)) | (apply v_box (zs := Cm.cells ⟨_, client, seq, key, val, old, node⟩); (case hx => rfl); (case hz => rfl); (case hd => rfl); intro cb) | (apply v_callJ (hs := qw); (case ha => rfl); (case hd => rfl)) | (apply v_callJ (hs := qm); (case ha => rfl); (case hd => rfl)) | (apply v_callJ (hs := qk); (case ha => rfl); (case hd => rfl)) | (apply v_callJ (hs := qv); (case ha => rfl); (case hd => rfl)) | (apply v_callJ (hs := qo); (case ha => rfl); (case hd => rfl)) | (apply v_read; (case hop => first | (apply r_load1; rfl; (apply Cell.own; (case h => (repeat (first | exact List.Mem.head _ | fail))); rfl)) | fail); (case hd => rfl)) | fail)
  all_goals
    (refine v_ret [] (outsA1 rfl rfl) (by repeat (first | exact List.nil_sublist _ | fail)) ?_
     refine ⟨?_, rfl⟩
     rw [cmdI_eq]
     congr 1
     unfold cmdE
     try simp only [nil_iff] at *
     try simp only
     (repeat' split) <;> first | rfl | (exfalso; omega) | (exfalso; simp_all; done) | (exfalso; simp_all; omega))
end Go.Proofs.YtnoiahlpmgbhfaaDoor
/-
  recone (layer 16), the first part: ballots, and what is wrong with a record.
-/
set_option linter.unusedSimpArgs false
set_option linter.unusedVariables false
namespace Go.Proofs.YtnoiahlpmgbhfaaDoor
open Go.Vx Go.ChangeShapes Go.WideShapes Go.ChangeAt Go.RowKit
/-! ### Equal structs -/
theorem eqBal {σ : Env} {ty t' : TypeId} {x y : Operand} {a b a' b' : Int} (hx : Env.ev σ x = some (.agg [.int .i64 a, .int .i64 b].toArray)) (hy : Env.ev σ y = some (.agg [.int .i64 a', .int .i64 b'].toArray)) : PureOp Tryd.prog (.binOp .eql 25 x y t') ty σ (.bool (dec (a = a' ∧ b = b'))) := by
  have := p_eqStruct (P := Tryd.prog) (ty := ty) (t := 25) (t' := t') hx hy (feq_int (k := .i64) (a := a) (b := a') (bytes := 8) (zero := .int .i64 0) (sz := 1) rfl rfl rfl (feq_int (k := .i64) (a := b) (b := b') (bytes := 8) (zero := .int .i64 0) (sz := 1) rfl rfl rfl feq_nil))
  have e : (dec (a = a') && (dec (b = b') && true)) = dec (a = a' ∧ b = b') := by simp only [dec_eq]; simp
  rwa [e] at this
theorem neBal {σ : Env} {ty t' : TypeId} {x y : Operand} {a b a' b' : Int} (hx : Env.ev σ x = some (.agg [.int .i64 a, .int .i64 b].toArray)) (hy : Env.ev σ y = some (.agg [.int .i64 a', .int .i64 b'].toArray)) : PureOp Tryd.prog (.binOp .neq 25 x y t') ty σ (.bool (!dec (a = a' ∧ b = b'))) := by
  have := p_neStruct (P := Tryd.prog) (ty := ty) (t := 25) (t' := t') hx hy (feq_int (k := .i64) (a := a) (b := a') (bytes := 8) (zero := .int .i64 0) (sz := 1) rfl rfl rfl (feq_int (k := .i64) (a := b) (b := b') (bytes := 8) (zero := .int .i64 0) (sz := 1) rfl rfl rfl feq_nil))
  have e : (dec (a = a') && (dec (b = b') && true)) = dec (a = a' ∧ b = b') := by simp only [dec_eq]; simp
  rwa [e] at this
noncomputable instance : DecidableEq Cm := fun a b => Classical.propDecidable (a = b)
theorem cm_feq (c c' : Cm) : FEq Tryd.prog 9999 c.cells c'.cells [⟨"Kind", 3, 0, false, "", "", 0⟩, ⟨"Client", 3, 1, false, "", "", 8⟩, ⟨"Seq", 3, 2, false, "", "", 16⟩, ⟨"Key", 9, 3, false, "", "", 24⟩, ⟨"Val", 9, 4, false, "", "", 40⟩, ⟨"Old", 9, 5, false, "", "", 56⟩, ⟨"Node", 3, 6, false, "", "", 72⟩] (dec (c.kind = c'.kind) && (dec (c.client = c'.client) && (dec (c.seq = c'.seq) && (dec (c.key = c'.key) && (dec (c.val = c'.val) && (dec (c.old = c'.old) && (dec (c.node = c'.node) && true))))))) :=
  feq_int (k := .i64) (bytes := 8) (zero := .int .i64 0) (sz := 1) (nm := "Kind") (ft := 3) (off := 0) (em := false) (tg := "") (pk := "") (bo := 0) rfl rfl rfl
    (feq_int (k := .i64) (bytes := 8) (zero := .int .i64 0) (sz := 1) (nm := "Client") (ft := 3) (off := 1) (em := false) (tg := "") (pk := "") (bo := 8) rfl rfl rfl
    (feq_int (k := .i64) (bytes := 8) (zero := .int .i64 0) (sz := 1) (nm := "Seq") (ft := 3) (off := 2) (em := false) (tg := "") (pk := "") (bo := 16) rfl rfl rfl
    (feq_str (bytes := 16) (zero := .string ByteArray.empty) (sz := 1) (nm := "Key") (ft := 9) (off := 3) (em := false) (tg := "") (pk := "") (bo := 24) rfl rfl rfl
    (feq_str (bytes := 16) (zero := .string ByteArray.empty) (sz := 1) (nm := "Val") (ft := 9) (off := 4) (em := false) (tg := "") (pk := "") (bo := 40) rfl rfl rfl
    (feq_str (bytes := 16) (zero := .string ByteArray.empty) (sz := 1) (nm := "Old") (ft := 9) (off := 5) (em := false) (tg := "") (pk := "") (bo := 56) rfl rfl rfl
    (feq_int (k := .i64) (bytes := 8) (zero := .int .i64 0) (sz := 1) (nm := "Node") (ft := 3) (off := 6) (em := false) (tg := "") (pk := "") (bo := 72) rfl rfl rfl feq_nil))))))
theorem cm_dec (c c' : Cm) : (dec (c.kind = c'.kind) && (dec (c.client = c'.client) && (dec (c.seq = c'.seq) && (dec (c.key = c'.key) && (dec (c.val = c'.val) && (dec (c.old = c'.old) && (dec (c.node = c'.node) && true))))))) = dec (c = c') := by
  obtain ⟨a1, a2, a3, a4, a5, a6, a7⟩ := c
  obtain ⟨b1, b2, b3, b4, b5, b6, b7⟩ := c'
  rw [Bool.eq_iff_iff]
  simp [dec_true]
theorem neCm {σ : Env} {ty t' : TypeId} {x y : Operand} {c c' : Cm} (hx : Env.ev σ x = some (.agg c.cells.toArray)) (hy : Env.ev σ y = some (.agg c'.cells.toArray)) : PureOp Tryd.prog (.binOp .neq 27 x y t') ty σ (.bool (!dec (c = c'))) := by
  have := p_neStruct (P := Tryd.prog) (ty := ty) (t := 27) (t' := t') hx hy (cm_feq c c')
  rwa [cm_dec] at this
/-! ### Ballots -/
def mayP (r n : Int) : Prop := (r = 0 ∧ n = 0) ∨ (1 ≤ r ∧ r ≤ 4294967296 ∧ 1 ≤ n ∧ n ≤ 9)
instance (r n : Int) : Decidable (mayP r n) := by unfold mayP; infer_instance
theorem node_s (G : GH) (n : Int) : Con Tryd.prog 125 #[.int .i64 n] G [] (Just (.bool (decide (1 ≤ n ∧ n ≤ 9))) G) := by
  refine v_enter Tryd.func125 rfl Tryd.ntmps125 rfl (fun B => ?_)
  repeat' (first | apply v_seq | apply v_region | apply v_nil | (apply v_take; (case hg => rfl)) | (apply v_pass; (case hg => rfl); (case hn => rfl); (case hd => rfl)) | (apply v_pure; (case hop => first | (apply p_move <;> rfl) | (apply p_le <;> rfl) | (apply p_ge <;> rfl) | (apply p_assign <;> rfl) | (apply p_pickT <;> rfl) | (apply p_pickF <;> rfl) | fail); (case hd => rfl)) | (apply v_guardB; (case h1 => rfl); (case h2 => rfl); all_goals (intro h; (try simp only [reduceCtorEq, dec_true, dec_false, decide_eq_true_eq, decide_eq_false_iff_not, Bool.not_eq_true', Bool.not_eq_false', Option.isNone_iff_eq_none, beq_true, beq_false, beq_iff_eq, beq_eq_false_iff_ne, ne_eq, decide_eq_decide, Bool.not_eq_true, Bool.not_eq_false, Decidable.not_not] at h); first | skip)) | fail)
  all_goals
    (refine v_ret [] (outsA1 rfl rfl) (by repeat (first | exact List.Sublist.refl _ | fail)) ?_
     refine ⟨?_, rfl, rfl⟩
     first
       | (rw [decide_eq_false (by omega)])
       | (by_cases h5 : n ≤ 9
          · rw [dec_pos h5, decide_eq_true (by omega)]
          · rw [dec_neg h5, decide_eq_false (by omega)]))
theorem may_s (G : GH) (r n : Int) : Con Tryd.prog 80 #[.agg #[.int .i64 r, .int .i64 n]] G [] (Just (.bool (decide (mayP r n))) G) := by
  apply Con.just
  refine v_enter Tryd.func80 rfl Tryd.ntmps80 rfl (fun B => ?_)
  repeat' (first | (apply v_pure; (case hop => (apply eqBal; (case hx => rfl); (case hy => rfl))); (case hd => rfl)) | apply v_seq | apply v_region | apply v_nil | (apply v_take; (case hg => rfl)) | (apply v_pass; (case hg => rfl); (case hn => rfl); (case hd => rfl)) | (apply v_passN; (case hg => rfl); (case hn => rfl); (case hd => rfl)) | (apply v_pure; (case hop => first | (apply p_move <;> rfl) | (apply p_le <;> rfl) | (apply p_ge <;> rfl) | (apply p_assign <;> rfl) | (apply p_pickT <;> rfl) | (apply p_pickF <;> rfl) | (apply p_fieldAddrB <;> rfl) | (apply p_build; (case hz => rfl); (case hv => (simp only [List.map_cons, List.map_nil]; repeat (first | with_reducible exact evs_nil | fail))); (case hb => (apply bldL; repeat (first | exact bld_nil | fail)))) | fail); (case hd => rfl)) | (apply v_guardB; (case h1 => rfl); (case h2 => rfl); all_goals (intro h; (try simp only [reduceCtorEq, dec_true, dec_false, decide_eq_true_eq, decide_eq_false_iff_not, Bool.not_eq_true', Bool.not_eq_false', Option.isNone_iff_eq_none, beq_true, beq_false, beq_iff_eq, beq_eq_false_iff_ne, ne_eq, decide_eq_decide, Bool.not_eq_true, Bool.not_eq_false, Decidable.not_not] at h); first | skip)) | (apply v_callJ (hs := node_s _ _); (case ha => rfl); (case hd => rfl)) | (apply v_read; (case hop => first | (apply r_loadNo; (case hx => rfl); (case h => (repeat (first | exact List.Mem.head _ | fail))); (case hd => (repeat (first | with_reducible exact dt_nil | apply dt_here | fail))); (case hn => rfl)) | (apply r_load1; rfl; (apply Cell.own; (case h => (repeat (first | exact List.Mem.head _ | fail))); rfl)) | fail); (case hd => rfl)) | (apply v_box; (case hx => rfl); (case hz => rfl); (case hd => rfl); intro b) | fail)
  all_goals
    (refine v_ret [] (outsA1 rfl rfl) (by repeat (first | exact List.nil_sublist _ | fail)) ?_
     refine ⟨?_, rfl⟩
     first
       | (rw [decide_eq_true (p := mayP r n) (by unfold mayP; omega)]; done)
       | (rw [decide_eq_false (p := mayP r n) (by unfold mayP; omega)]; done)
       | (rw [decide_eq_decide.2]; unfold mayP; omega)
       | (congr 1; rw [decide_eq_decide]; unfold mayP; omega))
theorem refMay_s (G : GH) (r n : Int) : Con Tryd.prog 65 #[.agg #[.int .i64 r, .int .i64 n]] G [] (Just (.bool (decide (mayP r n))) G) := by
  apply Con.just
  refine v_enter Tryd.func65 rfl Tryd.ntmps65 rfl (fun B => ?_)
  repeat' (first | apply v_seq | apply v_region | apply v_nil | apply v_skip | (apply v_take; (case hg => rfl)) | (apply v_pass; (case hg => rfl); (case hn => rfl); (case hd => rfl)) | (apply v_pure; (case hop => first | (apply p_move <;> rfl) | (apply p_eq <;> rfl) | (apply p_le <;> rfl) | (apply p_ge <;> rfl) | (apply p_assign <;> rfl) | (apply p_pickT <;> rfl) | (apply p_pickF <;> rfl) | (apply p_fieldAddrB <;> rfl) | fail); (case hd => rfl)) | (apply v_condF; (case hc => rfl)) | (apply v_cond; (case hc => rfl); all_goals (intro h; (try simp only [reduceCtorEq, dec_true, dec_false, decide_eq_true_eq, decide_eq_false_iff_not, Bool.not_eq_true', Bool.not_eq_false', Option.isNone_iff_eq_none, beq_true, beq_false, beq_iff_eq, beq_eq_false_iff_ne, ne_eq, decide_eq_decide, Bool.not_eq_true, Bool.not_eq_false, Decidable.not_not] at h); first | skip)) | (apply v_guardB; (case h1 => rfl); (case h2 => rfl); all_goals (intro h; (try simp only [reduceCtorEq, dec_true, dec_false, decide_eq_true_eq, decide_eq_false_iff_not, Bool.not_eq_true', Bool.not_eq_false', Option.isNone_iff_eq_none, beq_true, beq_false, beq_iff_eq, beq_eq_false_iff_ne, ne_eq, decide_eq_decide, Bool.not_eq_true, Bool.not_eq_false, Decidable.not_not] at h); first | (exfalso; omega) | skip)) | (apply v_read; (case hop => first | (apply r_load1; rfl; (apply Cell.own; (case h => (repeat (first | exact List.Mem.head _ | fail))); rfl)) | fail); (case hd => rfl)) | (apply v_box; (case hx => rfl); (case hz => rfl); (case hd => rfl); intro b) | fail)
  all_goals
    (refine v_ret [] (outsA1 rfl rfl) (by repeat (first | exact List.nil_sublist _ | fail)) ?_
     refine ⟨?_, rfl⟩
     first
       | (rw [decide_eq_true (p := mayP r n) (by unfold mayP; omega)]; done)
       | (rw [decide_eq_false (p := mayP r n) (by unfold mayP; omega)]; done)
       | (rw [dec_eq]; congr 1; rw [decide_eq_decide]; unfold mayP; omega))
end Go.Proofs.YtnoiahlpmgbhfaaDoor
/-
  recone (layer 16), the second part: what is wrong with a record.
-/
set_option linter.unusedSimpArgs false
set_option linter.unusedVariables false
namespace Go.Proofs.YtnoiahlpmgbhfaaDoor
open Go.Vx Go.ChangeShapes Go.WideShapes Go.ChangeAt Go.RowKit
/-- A record, but for its image's bytes. -/
def recL (k r n i : Int) (c : Cm) (iv : Value) : List Value := [.int .i64 k, .int .i64 r, .int .i64 n, .int .i64 i, .int .i64 c.kind, .int .i64 c.client, .int .i64 c.seq, .string c.key, .string c.val, .string c.old, .int .i64 c.node, iv]
def hasL (k : Int) : List Value :=
  if k = 1 then [.bool true, .bool false, .bool false, .bool false] else if k = 2 then [.bool true, .bool true, .bool true, .bool false]
  else if k = 3 then [.bool false, .bool true, .bool true, .bool false] else if k = 4 then [.bool false, .bool true, .bool false, .bool true]
  else [.bool false, .bool false, .bool false, .bool false]
theorem rfields_s (G : GH) (k : Int) : Con Tryd.prog 52 #[.int .i64 k] G [] (Just (.tuple [.agg (hasL k).toArray, .bool (decide (1 ≤ k ∧ k ≤ 4))].toArray) G) := by
  apply Con.just
  refine v_enter Tryd.func52 rfl Tryd.ntmps52 rfl (fun B => ?_)
  repeat' (first | apply v_seq | apply v_region | apply v_nil | apply v_skip | apply v_block | apply v_blk | (apply v_exit; (case hp => rfl)) | (apply v_pure; (case hop => first | (apply p_move <;> rfl) | (apply p_eq <;> rfl) | (apply p_assign <;> rfl) | (apply p_fieldAddrB <;> rfl) | fail); (case hd => rfl)) | (apply v_cond; (case hc => rfl); all_goals (intro h; (try simp only [reduceCtorEq, dec_true, dec_false, decide_eq_true_eq, decide_eq_false_iff_not, Bool.not_eq_true', Bool.not_eq_false', Option.isNone_iff_eq_none, beq_true, beq_false, beq_iff_eq, beq_eq_false_iff_ne, ne_eq, decide_eq_decide, Bool.not_eq_true, Bool.not_eq_false, Decidable.not_not] at h); first | skip)) | (apply v_read; (case hop => first | (apply r_loadNo; (case hx => rfl); (case h => (repeat (first | exact List.Mem.head _ | fail))); (case hd => (repeat (first | with_reducible exact dt_nil | apply dt_here | fail))); (case hn => rfl)) | fail); (case hd => rfl)) | (apply v_alloc; (case hz => rfl); (case hd => rfl); intro b) | (apply v_store; (case hp => rfl); (case hx => rfl); (case hc => rfl); (case hsz => rfl); (case h1 => rfl); (case hb => (repeat (first | exact List.Mem.head _ | apply List.Mem.tail | fail))); (case hfit => first | exact Nat.le_of_ble_eq_true rfl | fail); (case hov => (first | ((repeat (first | with_reducible exact ov_nil | apply ov_cons | fail)); done) | fail)); (case hu => repeat (first | exact Upd.here _ _ | apply Upd.there | fail))) | fail)
  all_goals
    (refine v_retM [] (outsM_cell_tmp (vs := hasL k) (e := 81) rfl rfl rfl ?_ ?_) (by repeat (first | exact List.nil_sublist _ | fail)) ?_
     · unfold hasL
       first
         | (rw [if_pos (show k = 1 by omega)]; (repeat (first | exact List.Mem.head _ | apply List.Mem.tail)))
         | (rw [if_neg (show ¬ k = 1 by omega), if_pos (show k = 2 by omega)]; (repeat (first | exact List.Mem.head _ | apply List.Mem.tail)))
         | (rw [if_neg (show ¬ k = 1 by omega), if_neg (show ¬ k = 2 by omega), if_pos (show k = 3 by omega)]; (repeat (first | exact List.Mem.head _ | apply List.Mem.tail)))
         | (rw [if_neg (show ¬ k = 1 by omega), if_neg (show ¬ k = 2 by omega), if_neg (show ¬ k = 3 by omega), if_pos (show k = 4 by omega)]; (repeat (first | exact List.Mem.head _ | apply List.Mem.tail)))
         | (rw [if_neg (show ¬ k = 1 by omega), if_neg (show ¬ k = 2 by omega), if_neg (show ¬ k = 3 by omega), if_neg (show ¬ k = 4 by omega)]; (repeat (first | exact List.Mem.head _ | apply List.Mem.tail)))
     · unfold hasL; (repeat' split) <;> rfl
     · refine ⟨?_, rfl⟩
       first
         | rw [decide_eq_true (by omega)]
         | rw [decide_eq_false (by omega)])
def ranP (k r n i : Int) : Prop := ((k = 1 ∨ k = 2) → mayP r n ∧ ¬ (r = 0 ∧ n = 0)) ∧ ((k = 2 ∨ k = 3 ∨ k = 4) → 1 ≤ i ∧ i ≤ 4294967296)
instance (k r n i : Int) : Decidable (ranP k r n i) := by unfold ranP; infer_instance
theorem ranges_s (G : GH) (k r n i : Int) (c : Cm) (iv : Value) (hk : 1 ≤ k ∧ k ≤ 4) : Con Tryd.prog 100 #[.agg (recL k r n i c iv).toArray, .agg (hasL k).toArray] G [] (Just (.bool (decide (ranP k r n i))) G) := by
  apply Con.just
  refine v_enter Tryd.func100 rfl Tryd.ntmps100 rfl (fun B => ?_)
  obtain rfl | rfl | rfl | rfl : k = 1 ∨ k = 2 ∨ k = 3 ∨ k = 4 := by omega
  all_goals
    repeat' (first | (apply v_pure; (case hop => (apply eqBal; (case hx => rfl); (case hy => rfl))); (case hd => rfl)) | apply v_seq | apply v_region | apply v_nil | apply v_skip | (apply v_take; (case hg => rfl)) | (apply v_pass; (case hg => rfl); (case hn => rfl); (case hd => rfl)) | (apply v_passN; (case hg => rfl); (case hn => rfl); (case hd => rfl)) | (apply v_pure; (case hop => first | (apply p_move <;> rfl) | (apply p_le <;> rfl) | (apply p_ge <;> rfl) | (apply p_assign <;> rfl) | (apply p_pickT <;> rfl) | (apply p_pickF <;> rfl) | (apply p_not <;> rfl) | (apply p_fieldAddrB <;> rfl) | (apply p_build; (case hz => rfl); (case hv => (simp only [List.map_cons, List.map_nil]; repeat (first | with_reducible exact evs_nil | fail))); (case hb => (apply bldL; repeat (first | exact bld_nil | fail)))) | fail); (case hd => rfl)) | (apply v_condT; (case hc => rfl)) | (apply v_condF; (case hc => rfl)) | (apply v_cond; (case hc => rfl); all_goals (intro h; (try simp only [reduceCtorEq, dec_true, dec_false, decide_eq_true_eq, decide_eq_false_iff_not, Bool.not_eq_true', Bool.not_eq_false', Option.isNone_iff_eq_none, beq_true, beq_false, beq_iff_eq, beq_eq_false_iff_ne, ne_eq, decide_eq_decide, Bool.not_eq_true, Bool.not_eq_false, Decidable.not_not] at h); first | skip)) | (apply v_guardB; (case h1 => rfl); (case h2 => rfl); all_goals (intro h; (try simp only [reduceCtorEq, dec_true, dec_false, decide_eq_true_eq, decide_eq_false_iff_not, Bool.not_eq_true', Bool.not_eq_false', Option.isNone_iff_eq_none, beq_true, beq_false, beq_iff_eq, beq_eq_false_iff_ne, ne_eq, decide_eq_decide, Bool.not_eq_true, Bool.not_eq_false, Decidable.not_not] at h); first | skip)) | (apply v_box (zs := recL _ r n i c iv); (case hx => rfl); (case hz => rfl); (case hd => rfl); intro b) | (apply v_box (zs := hasL _); (case hx => rfl); (case hz => rfl); (case hd => rfl); intro b) | (apply v_callJ (hs := may_s _ _ _); (case ha => rfl); (case hd => rfl)) | (apply v_read; (case hop => first | (apply r_loadNo; (case hx => rfl); (case h => (repeat (first | exact List.Mem.head _ | apply List.Mem.tail | fail))); (case hd => (repeat (first | with_reducible exact dt_nil | apply dt_here | fail))); (case hn => rfl)) | (apply r_load1; rfl; (apply Cell.own; (case h => (repeat (first | exact List.Mem.head _ | apply List.Mem.tail | fail))); rfl)) | fail); (case hd => rfl)) | fail)
  all_goals
    (refine v_ret [] (outsA1 rfl rfl) (by repeat (first | exact List.nil_sublist _ | fail)) ?_
     refine ⟨?_, rfl⟩
     first
       | (rw [decide_eq_true (p := ranP _ r n i) (by unfold mayP at *; unfold ranP mayP; omega)]; done)
       | (rw [decide_eq_false (p := ranP _ r n i) (by unfold mayP at *; unfold ranP mayP; omega)]; done)
       | (rw [decide_eq_true (p := ranP _ r n i) (by unfold ranP mayP; omega)]; done)
       | (rw [decide_eq_false (p := ranP _ r n i) (by unfold ranP mayP; omega)]; done)
       | (rw [dec_eq]; congr 1; rw [decide_eq_decide]; unfold mayP at *; unfold ranP mayP; omega)
       | (rw [dec_eq]; congr 1; rw [decide_eq_decide]; unfold ranP mayP; omega))
def zeroCm : Cm := ⟨0, 0, 0, ByteArray.empty, ByteArray.empty, ByteArray.empty, 0⟩
def othP (k r n i : Int) (c : Cm) (len : Nat) : Prop := (¬ (k = 1 ∨ k = 2) ∧ ¬ (r = 0 ∧ n = 0)) ∨ (k = 1 ∧ i ≠ 0) ∨ (¬ (k = 2 ∨ k = 3) ∧ c ≠ zeroCm) ∨ ¬ (k = 4 ↔ 0 < len)
noncomputable instance (k r n i : Int) (c : Cm) (len : Nat) : Decidable (othP k r n i c len) := Classical.propDecidable _
theorem others_s (G : GH) (k r n i : Int) (c : Cm) (A : Option Addr) (len cap : Nat) (hl : len ≤ 9223372036854775807) (hk : 1 ≤ k ∧ k ≤ 4) : Con Tryd.prog 102 #[.agg (recL k r n i c (.slice A len cap)).toArray, .agg (hasL k).toArray] G [] (Just (.bool (decide (othP k r n i c len))) G) := by
  apply Con.just
  refine v_enter Tryd.func102 rfl Tryd.ntmps102 rfl (fun B => ?_)
  obtain rfl | rfl | rfl | rfl : k = 1 ∨ k = 2 ∨ k = 3 ∨ k = 4 := by omega
  all_goals
    repeat' (first | (apply v_pure; (case hop => (apply neCm (c := c) (c' := zeroCm); (case hx => rfl); (case hy => rfl))); (case hd => rfl)) | apply v_seq | apply v_region | apply v_nil | apply v_skip | apply v_block | apply v_blk | (apply v_take; (case hg => rfl)) | (apply v_pass; (case hg => rfl); (case hn => rfl); (case hd => rfl)) | (apply v_pure; (case hop => first | (apply p_move <;> rfl) | (apply p_gt <;> rfl) | (apply p_ne <;> rfl) | (apply p_assign <;> rfl) | (apply p_pickT <;> rfl) | (apply p_pickF <;> rfl) | (apply p_not <;> rfl) | (apply p_lenSlice <;> rfl) | (apply p_fieldAddrB <;> rfl) | (apply p_neB <;> rfl) | (apply p_build; (case hz => rfl); (case hv => (simp only [List.map_cons, List.map_nil]; repeat (first | with_reducible exact evs_nil | fail))); (case hb => (apply bldL; repeat (first | exact bld_nil | fail)))) | fail); (case hd => rfl)) | (apply v_condF; (case hc => rfl)) | (apply v_cond; (case hc => rfl); all_goals (intro h; (try simp only [reduceCtorEq, dec_true, dec_false, decide_eq_true_eq, decide_eq_false_iff_not, Bool.not_eq_true', Bool.not_eq_false', Option.isNone_iff_eq_none, beq_true, beq_false, beq_iff_eq, beq_eq_false_iff_ne, ne_eq, decide_eq_decide, Bool.not_eq_true, Bool.not_eq_false, Decidable.not_not] at h); first | (exfalso; omega) | skip)) | (apply v_pure; (case hop => (apply neBal; (case hx => rfl); (case hy => rfl))); (case hd => rfl)) | (apply v_box (zs := recL _ r n i c (.slice A len cap)); (case hx => rfl); (case hz => rfl); (case hd => rfl); intro b) | (apply v_box (zs := hasL _); (case hx => rfl); (case hz => rfl); (case hd => rfl); intro b) | (apply v_read; (case hop => first | (apply r_loadNo; (case hx => rfl); (case h => (repeat (first | exact List.Mem.head _ | apply List.Mem.tail | fail))); (case hd => (repeat (first | with_reducible exact dt_nil | apply dt_here | fail))); (case hn => rfl)) | (apply r_load1; rfl; (apply Cell.own; (case h => (repeat (first | exact List.Mem.head _ | apply List.Mem.tail | fail))); rfl)) | fail); (case hd => rfl)) | fail)
  all_goals
    (refine v_ret [] (outsA1 rfl rfl) (by repeat (first | exact List.nil_sublist _ | fail)) ?_
     refine ⟨?_, rfl⟩
     first | (simp [othP, dec_eq, *]; done) | (simp [othP, dec_eq, *]; grind))
noncomputable def recI (k r n i : Int) (c : Cm) (len : Nat) : Int :=
  if k < 1 ∨ 4 < k then 5 else if ¬ ranP k r n i then 6 else if k = 4 ∧ 32768 < len then 2 else if (k = 2 ∨ k = 3) ∧ cmdI c ≠ 0 then cmdI c else if othP k r n i c len then 3 else 0
theorem recCheck_s {G : GH} (hT : TabsG G) (k r n i : Int) (c : Cm) (hc : c.ok) (A : Option Addr) (len cap : Nat) (hl : len ≤ 9223372036854775807) : Con Tryd.prog 61 #[.agg (recL k r n i c (.slice A len cap)).toArray] G [] (Just (.int .i64 (recI k r n i c len)) G) := by
  have qc := Con.just (cmdCheck_s hT c hc)
  have qf := rfields_s G k
  apply Con.just
  refine v_enter Tryd.func61 rfl Tryd.ntmps61 rfl (fun B => ?_)
  by_cases hk : 1 ≤ k ∧ k ≤ 4
  · rw [decide_eq_true hk] at qf
    have qr := ranges_s G k r n i c (.slice A len cap) hk
    have qo := others_s G k r n i c A len cap hl hk
    obtain rfl | rfl | rfl | rfl : k = 1 ∨ k = 2 ∨ k = 3 ∨ k = 4 := by omega
    all_goals
      repeat' (first | apply v_seq | apply v_region | apply v_nil | apply v_skip | apply v_block | apply v_blk | (apply v_take; (case hg => rfl)) | (apply v_pass; (case hg => rfl); (case hn => rfl); (case hd => rfl)) | (apply v_pure; (case hop => first | (apply p_move <;> rfl) | (apply p_gt <;> rfl) | (apply p_ne <;> rfl) | (apply p_assign <;> rfl) | (apply p_pickT <;> rfl) | (apply p_pickF <;> rfl) | (apply p_not <;> rfl) | (apply p_lenSlice <;> rfl) | (apply p_fieldAddrB <;> rfl) | (apply p_extract0 <;> rfl) | (apply p_extract1 <;> rfl) | fail); (case hd => rfl)) | (apply v_condT; (case hc => rfl)) | (apply v_condF; (case hc => rfl)) | (apply v_cond; (case hc => rfl); all_goals (intro h; (try simp only [reduceCtorEq, dec_true, dec_false, decide_eq_true_eq, decide_eq_false_iff_not, Bool.not_eq_true', Bool.not_eq_false', Option.isNone_iff_eq_none, beq_true, beq_false, beq_iff_eq, beq_eq_false_iff_ne, ne_eq, decide_eq_decide, Bool.not_eq_true, Bool.not_eq_false, Decidable.not_not] at h); first | skip)) | (apply v_box (zs := recL _ r n i c (.slice A len cap)); (case hx => rfl); (case hz => rfl); (case hd => rfl); intro b) | (apply v_callJ (hs := qf); (case ha => rfl); (case hd => rfl)) | (apply v_callJ (hs := qr); (case ha => rfl); (case hd => rfl)) | (apply v_callJ (hs := qo); (case ha => rfl); (case hd => rfl)) | (apply v_callJ (hs := qc); (case ha => rfl); (case hd => rfl)) | (apply v_read; (case hop => first | (apply r_loadNo; (case hx => rfl); (case h => (repeat (first | exact List.Mem.head _ | apply List.Mem.tail | fail))); (case hd => (repeat (first | with_reducible exact dt_nil | apply dt_here | fail))); (case hn => rfl)) | (apply r_load1; rfl; (apply Cell.own; (case h => (repeat (first | exact List.Mem.head _ | apply List.Mem.tail | fail))); rfl)) | fail); (case hd => rfl)) | (apply v_alloc; (case hz => rfl); (case hd => rfl); intro b) | (apply v_store; (case hp => rfl); (case hx => rfl); (case hc => rfl); (case hsz => rfl); (case h1 => rfl); (case hb => (repeat (first | exact List.Mem.head _ | fail))); (case hfit => first | exact Nat.le_of_ble_eq_true rfl | fail); (case hov => (first | ((repeat (first | with_reducible exact ov_nil | apply ov_cons | fail)); done) | fail)); (case hu => repeat (first | exact Upd.here _ _ | fail))) | fail)
    all_goals
      (refine v_ret [] (outsA1 rfl rfl) (by repeat (first | exact List.nil_sublist _ | fail)) ?_
       refine ⟨?_, rfl⟩
       first | (simp [recI, *]; done) | (simp [recI, *]; omega))
  · have e : hasL k = [.bool false, .bool false, .bool false, .bool false] := by unfold hasL; rw [if_neg (by omega), if_neg (by omega), if_neg (by omega), if_neg (by omega)]
    rw [decide_eq_false hk, e] at qf
    repeat' (first | apply v_seq | apply v_region | apply v_nil | apply v_block | (apply v_pure; (case hop => first | (apply p_move <;> rfl) | (apply p_assign <;> rfl) | (apply p_not <;> rfl) | (apply p_fieldAddrB <;> rfl) | (apply p_extract0 <;> rfl) | (apply p_extract1 <;> rfl) | fail); (case hd => rfl)) | (apply v_condT; (case hc => rfl)) | (apply v_box (zs := recL _ r n i c (.slice A len cap)); (case hx => rfl); (case hz => rfl); (case hd => rfl); intro b) | (apply v_callJ (hs := qf); (case ha => rfl); (case hd => rfl)) | (apply v_read; (case hop => first | (apply r_load1; rfl; (apply Cell.own; (case h => (repeat (first | exact List.Mem.head _ | fail))); rfl)) | fail); (case hd => rfl)) | (apply v_alloc; (case hz => rfl); (case hd => rfl); intro b) | (apply v_store; (case hp => rfl); (case hx => rfl); (case hc => rfl); (case hsz => rfl); (case h1 => rfl); (case hb => (repeat (first | exact List.Mem.head _ | fail))); (case hfit => first | exact Nat.le_of_ble_eq_true rfl | fail); (case hov => (first | ((repeat (first | with_reducible exact ov_nil | apply ov_cons | fail)); done) | fail)); (case hu => repeat (first | exact Upd.here _ _ | fail))) | fail)
    refine v_ret [] (outsA1 rfl rfl) (by repeat (first | exact List.nil_sublist _ | fail)) ?_
    refine ⟨?_, rfl⟩
    rw [recI, if_pos (by omega)]
end Go.Proofs.YtnoiahlpmgbhfaaDoor
/-
  recone (layer 16), the third part: the reference says the same.
-/
set_option linter.unusedSimpArgs false
set_option linter.unusedVariables false
namespace Go.Proofs.YtnoiahlpmgbhfaaDoor
open Go.Vx Go.ChangeShapes Go.WideShapes Go.ChangeAt Go.RowKit
theorem hasBallot_s (G : GH) (k : Int) : Con Tryd.prog 63 #[.int .i64 k] G [] (Just (.bool (decide (k = 1 ∨ k = 2))) G) := by
  refine v_enter Tryd.func63 rfl Tryd.ntmps63 rfl (fun B => ?_)
  repeat' (first | apply v_seq | apply v_region | apply v_nil | (apply v_take; (case hg => rfl)) | (apply v_pass; (case hg => rfl); (case hn => rfl); (case hd => rfl)) | (apply v_pure; (case hop => first | (apply p_move <;> rfl) | (apply p_eq <;> rfl) | (apply p_assign <;> rfl) | (apply p_pickT <;> rfl) | (apply p_pickF <;> rfl) | fail); (case hd => rfl)) | (apply v_guardB; (case h1 => rfl); (case h2 => rfl); all_goals (intro h; (try simp only [reduceCtorEq, dec_true, dec_false, decide_eq_true_eq, decide_eq_false_iff_not, Bool.not_eq_true', Bool.not_eq_false', Option.isNone_iff_eq_none, beq_true, beq_false, beq_iff_eq, beq_eq_false_iff_ne, ne_eq, decide_eq_decide, Bool.not_eq_true, Bool.not_eq_false, Decidable.not_not] at h); first | skip)) | fail)
  all_goals
    (refine v_ret [] (outsA1 rfl rfl) (by repeat (first | exact List.Sublist.refl _ | fail)) ?_
     refine ⟨?_, rfl, rfl⟩
     first | (simp [dec_eq, *]; done) | fail)
theorem hasIndex_s (G : GH) (k : Int) : Con Tryd.prog 66 #[.int .i64 k] G [] (Just (.bool (decide (k = 2 ∨ k = 3 ∨ k = 4))) G) := by
  refine v_enter Tryd.func66 rfl Tryd.ntmps66 rfl (fun B => ?_)
  repeat' (first | apply v_seq | apply v_region | apply v_nil | (apply v_take; (case hg => rfl)) | (apply v_pass; (case hg => rfl); (case hn => rfl); (case hd => rfl)) | (apply v_pure; (case hop => first | (apply p_move <;> rfl) | (apply p_eq <;> rfl) | (apply p_assign <;> rfl) | (apply p_pickT <;> rfl) | (apply p_pickF <;> rfl) | fail); (case hd => rfl)) | (apply v_guardB; (case h1 => rfl); (case h2 => rfl); all_goals (intro h; (try simp only [reduceCtorEq, dec_true, dec_false, decide_eq_true_eq, decide_eq_false_iff_not, Bool.not_eq_true', Bool.not_eq_false', Option.isNone_iff_eq_none, beq_true, beq_false, beq_iff_eq, beq_eq_false_iff_ne, ne_eq, decide_eq_decide, Bool.not_eq_true, Bool.not_eq_false, Decidable.not_not] at h); first | skip)) | fail)
  all_goals
    (refine v_ret [] (outsA1 rfl rfl) (by repeat (first | exact List.Sublist.refl _ | fail)) ?_
     refine ⟨?_, rfl, rfl⟩
     first | (simp [dec_eq, *]; done) | fail)
theorem hasCmd_s (G : GH) (k : Int) : Con Tryd.prog 57 #[.int .i64 k] G [] (Just (.bool (decide (k = 2 ∨ k = 3))) G) := by
  refine v_enter Tryd.func57 rfl Tryd.ntmps57 rfl (fun B => ?_)
  repeat' (first | apply v_seq | apply v_region | apply v_nil | (apply v_take; (case hg => rfl)) | (apply v_pass; (case hg => rfl); (case hn => rfl); (case hd => rfl)) | (apply v_pure; (case hop => first | (apply p_move <;> rfl) | (apply p_eq <;> rfl) | (apply p_assign <;> rfl) | (apply p_pickT <;> rfl) | (apply p_pickF <;> rfl) | fail); (case hd => rfl)) | (apply v_guardB; (case h1 => rfl); (case h2 => rfl); all_goals (intro h; (try simp only [reduceCtorEq, dec_true, dec_false, decide_eq_true_eq, decide_eq_false_iff_not, Bool.not_eq_true', Bool.not_eq_false', Option.isNone_iff_eq_none, beq_true, beq_false, beq_iff_eq, beq_eq_false_iff_ne, ne_eq, decide_eq_decide, Bool.not_eq_true, Bool.not_eq_false, Decidable.not_not] at h); first | skip)) | fail)
  all_goals
    (refine v_ret [] (outsA1 rfl rfl) (by repeat (first | exact List.Sublist.refl _ | fail)) ?_
     refine ⟨?_, rfl, rfl⟩
     first | (simp [dec_eq, *]; done) | fail)
set_option maxHeartbeats 4000000 in
theorem refRecCheck_s {G : GH} (k r n i : Int) (c : Cm) (hc : c.ok) (A : Option Addr) (len cap : Nat) (hl : len ≤ 9223372036854775807) : Con Tryd.prog 26 #[.agg (recL k r n i c (.slice A len cap)).toArray] G [] (Just (.int .i64 (recI k r n i c len)) G) := by
  have qc := Con.just (refCmdCheck_s (G := G) c hc)
  have qb := hasBallot_s G k
  have qi := hasIndex_s G k
  have qm := hasCmd_s G k
  apply Con.just
  refine v_enter Tryd.func26 rfl Tryd.ntmps26 rfl (fun B => ?_)
  by_cases hk : 1 ≤ k ∧ k ≤ 4
  · obtain rfl | rfl | rfl | rfl : k = 1 ∨ k = 2 ∨ k = 3 ∨ k = 4 := by omega
    all_goals
      (first | rw [decide_eq_true (by omega)] at qb | rw [decide_eq_false (by omega)] at qb)
      (first | rw [decide_eq_true (by omega)] at qi | rw [decide_eq_false (by omega)] at qi)
      (first | rw [decide_eq_true (by omega)] at qm | rw [decide_eq_false (by omega)] at qm)
      repeat' (first | (apply v_pure; (case hop => (apply neCm (c := c) (c' := zeroCm); (case hx => rfl); (case hy => rfl))); (case hd => rfl)) | apply v_seq | apply v_region | apply v_nil | apply v_skip | (apply v_take; (case hg => rfl)) | (apply v_pass; (case hg => rfl); (case hn => rfl); (case hd => rfl)) | (apply v_passN; (case hg => rfl); (case hn => rfl); (case hd => rfl)) | (apply v_pure; (case hop => first | (apply p_move <;> rfl) | (apply p_eqs <;> rfl) | (apply p_eq <;> rfl) | (apply p_lt <;> rfl) | (apply p_gt <;> rfl) | (apply p_ne <;> rfl) | (apply p_assign <;> rfl) | (apply p_pickT <;> rfl) | (apply p_pickF <;> rfl) | (apply p_not <;> rfl) | (apply p_lenSlice <;> rfl) | (apply p_fieldAddrB <;> rfl) | (apply p_neB <;> rfl) | (apply p_build; (case hz => rfl); (case hv => (simp only [List.map_cons, List.map_nil]; repeat (first | with_reducible exact evs_nil | fail))); (case hb => (apply bldL; repeat (first | exact bld_nil | fail)))) | fail); (case hd => rfl)) | (apply v_condT; (case hc => rfl)) | (apply v_condF; (case hc => rfl)) | (apply v_cond; (case hc => rfl); all_goals (intro h; (try simp only [reduceCtorEq, dec_true, dec_false, decide_eq_true_eq, decide_eq_false_iff_not, Bool.not_eq_true', Bool.not_eq_false', Option.isNone_iff_eq_none, beq_true, beq_false, beq_iff_eq, beq_eq_false_iff_ne, ne_eq, decide_eq_decide, Bool.not_eq_true, Bool.not_eq_false, Decidable.not_not] at h); first | (exfalso; omega) | skip)) | (apply v_guardB; (case h1 => rfl); (case h2 => rfl); all_goals (intro h; (try simp only [reduceCtorEq, dec_true, dec_false, decide_eq_true_eq, decide_eq_false_iff_not, Bool.not_eq_true', Bool.not_eq_false', Option.isNone_iff_eq_none, beq_true, beq_false, beq_iff_eq, beq_eq_false_iff_ne, ne_eq, decide_eq_decide, Bool.not_eq_true, Bool.not_eq_false, Decidable.not_not] at h); first | (exfalso; omega) | skip)) | (apply v_box (zs := recL _ r n i c (.slice A len cap)); (case hx => rfl); (case hz => rfl); (case hd => rfl); intro b) | (apply v_callJ (hs := qb); (case ha => rfl); (case hd => rfl)) | (apply v_callJ (hs := qi); (case ha => rfl); (case hd => rfl)) | (apply v_callJ (hs := qm); (case ha => rfl); (case hd => rfl)) | (apply v_callJ (hs := qc); (case ha => rfl); (case hd => rfl)) | (apply v_callJ (hs := refMay_s _ _ _); (case ha => rfl); (case hd => rfl)) | (apply v_read; (case hop => first | (apply r_loadNo; (case hx => rfl); (case h => (repeat (first | exact List.Mem.head _ | fail))); (case hd => (repeat (first | with_reducible exact dt_nil | apply dt_here | fail))); (case hn => rfl)) | (apply r_load1; rfl; (apply Cell.own; (case h => (repeat (first | exact List.Mem.head _ | fail))); rfl)) | fail); (case hd => rfl)) | fail)
    all_goals
      (refine v_ret [] (outsA1 rfl rfl) (by repeat (first | exact List.nil_sublist _ | fail)) ?_
       refine ⟨?_, rfl⟩
       clear qc qb qi qm hc
       congr 1
       (try simp only [dec_eq] at *)
       (try unfold mayP at *)
       unfold recI ranP othP mayP
       grind)
  · repeat' (first | apply v_seq | apply v_region | apply v_nil | (apply v_take; (case hg => rfl)) | (apply v_pass; (case hg => rfl); (case hn => rfl); (case hd => rfl)) | (apply v_pure; (case hop => first | (apply p_move <;> rfl) | (apply p_lt <;> rfl) | (apply p_gt <;> rfl) | (apply p_assign <;> rfl) | (apply p_pickT <;> rfl) | (apply p_pickF <;> rfl) | (apply p_fieldAddrB <;> rfl) | fail); (case hd => rfl)) | (apply v_condT; (case hc => rfl)) | (apply v_cond; (case hc => rfl); all_goals (intro h; (try simp only [reduceCtorEq, dec_true, dec_false, decide_eq_true_eq, decide_eq_false_iff_not, Bool.not_eq_true', Bool.not_eq_false', Option.isNone_iff_eq_none, beq_true, beq_false, beq_iff_eq, beq_eq_false_iff_ne, ne_eq, decide_eq_decide, Bool.not_eq_true, Bool.not_eq_false, Decidable.not_not] at h); first | (exfalso; omega) | skip)) | (apply v_guardB; (case h1 => rfl); (case h2 => rfl); all_goals (intro h; (try simp only [reduceCtorEq, dec_true, dec_false, decide_eq_true_eq, decide_eq_false_iff_not, Bool.not_eq_true', Bool.not_eq_false', Option.isNone_iff_eq_none, beq_true, beq_false, beq_iff_eq, beq_eq_false_iff_ne, ne_eq, decide_eq_decide, Bool.not_eq_true, Bool.not_eq_false, Decidable.not_not] at h); first | skip)) | (apply v_box (zs := recL _ r n i c (.slice A len cap)); (case hx => rfl); (case hz => rfl); (case hd => rfl); intro b) | (apply v_read; (case hop => first | (apply r_load1; rfl; (apply Cell.own; (case h => (repeat (first | exact List.Mem.head _ | fail))); rfl)) | fail); (case hd => rfl)) | fail)
    all_goals
      (refine v_ret [] (outsA1 rfl rfl) (by repeat (first | exact List.nil_sublist _ | fail)) ?_
       refine ⟨?_, rfl⟩
       rw [recI, if_pos (by omega)])
end Go.Proofs.YtnoiahlpmgbhfaaDoor
/-
  entry (layer 12), the first part: entries in cells; what may be, of one and of all.
-/
set_option linter.unusedSimpArgs false
set_option linter.unusedVariables false
namespace Go.Proofs.YtnoiahlpmgbhfaaDoor
open Go.Vx Go.ChangeShapes Go.WideShapes Go.ChangeAt Go.RowKit
/-- An entry. -/
structure Ent where
  index : Int
  round : Int
  node : Int
  cmd : Cm
noncomputable instance : DecidableEq Ent := fun a b => Classical.propDecidable (a = b)
def Ent.cells (x : Ent) : List Value := [.int .i64 x.index, .int .i64 x.round, .int .i64 x.node, .int .i64 x.cmd.kind, .int .i64 x.cmd.client, .int .i64 x.cmd.seq, .string x.cmd.key, .string x.cmd.val, .string x.cmd.old, .int .i64 x.cmd.node]
def Ent.ok (x : Ent) : Prop := (Lit.int .i64 x.index).wf = true ∧ (Lit.int .i64 x.round).wf = true ∧ (Lit.int .i64 x.node).wf = true ∧ x.cmd.ok
def EntR (x : Ent) (cs : List Value) : Prop := cs = x.cells ∧ x.ok
abbrev Es (G : GH) (v : Value) (l : List Ent) : Prop := Sl G 10 EntR v l
theorem adr_add (X : Addr) (a b : Nat) : (X.add a).add b = X.add (a + b) := by
  by_cases ha : a = 0 <;> by_cases hb : b = 0 <;> simp [Addr.add, ha, hb, Nat.add_assoc]
theorem cellsG_drop {G : GH} {X : Addr} {cs : List Value} (n : Nat) (h : CellsG G X cs) : CellsG G (X.add n) (cs.drop n) := by
  intro j u hu
  rw [adr_add]
  exact h _ _ (by simpa using hu)
theorem cellsG_take {G : GH} {X : Addr} {cs : List Value} (n : Nat) (h : CellsG G X cs) : CellsG G X (cs.take n) := by
  intro j u hu
  exact h _ _ (by rw [List.getElem?_take] at hu; split at hu; exact hu; cases hu)
theorem esOpen {G : GH} {v : Value} {l : List Ent} (h : Es G v l) : ∃ A c, v = .slice A l.length c ∧ l.length ≤ c ∧ c ≤ maxLen ∧ (0 < l.length → A.isSome = true) ∧
    (∀ i (h : i < l.length), CellsG G ((adr A).add (i * 10)) l[i].cells) ∧ (∀ i (h : i < l.length), CellsG G (((adr A).add (i * 10)).add 1) [.int .i64 l[i].round, .int .i64 l[i].node]) ∧
    (∀ i (h : i < l.length), CellsG G (((adr A).add (i * 10)).add 3) l[i].cmd.cells) ∧ (∀ i (h : i < l.length), l[i].ok) := by
  obtain ⟨A, c, rfl, h1, h2, h3, h4⟩ := h.open
  have key : ∀ i (h : i < l.length), CellsG G ((adr A).add (i * 10)) l[i].cells ∧ l[i].ok := fun i hi => by
    obtain ⟨cs, _, ⟨rfl, h6⟩, h5⟩ := h4 i _ (List.getElem?_eq_getElem hi)
    exact ⟨h5, h6⟩
  refine ⟨A, c, rfl, h1, h2, h3, fun i hi => (key i hi).1, fun i hi => ?_, fun i hi => ?_, fun i hi => (key i hi).2⟩
  · exact cellsG_take 2 (cellsG_drop 1 (key i hi).1)
  · exact cellsG_drop 3 (key i hi).1
/-! ### One -/
noncomputable def oneI (x : Ent) : Int := if x.index < 1 ∨ 4294967296 < x.index ∨ ¬ mayP x.round x.node then 6 else cmdI x.cmd
theorem one_s {G : GH} (hT : TabsG G) (x : Ent) (hx : x.ok) : Con Tryd.prog 120 #[.agg x.cells.toArray] G [] (Just (.int .i64 (oneI x)) G) := by
  have qm := may_s G x.round x.node
  have qc := Con.just (cmdCheck_s hT x.cmd hx.2.2.2)
  apply Con.just
  refine v_enter Tryd.func120 rfl Tryd.ntmps120 rfl (fun B => ?_)
  repeat' (first | apply v_seq | apply v_region | apply v_nil | apply v_skip | (apply v_take; (case hg => rfl)) | (apply v_pass; (case hg => rfl); (case hn => rfl); (case hd => rfl)) | (apply v_pure; (case hop => first | (apply p_move <;> rfl) | (apply p_lt <;> rfl) | (apply p_gt <;> rfl) | (apply p_assign <;> rfl) | (apply p_pickT <;> rfl) | (apply p_pickF <;> rfl) | (apply p_not <;> rfl) | (apply p_fieldAddrB <;> rfl) | fail); (case hd => rfl)) | (apply v_condT; (case hc => rfl)) | (apply v_cond; (case hc => rfl); all_goals (intro h; (try simp only [reduceCtorEq, dec_true, dec_false, decide_eq_true_eq, decide_eq_false_iff_not, Bool.not_eq_true', Bool.not_eq_false', Option.isNone_iff_eq_none, beq_true, beq_false, beq_iff_eq, beq_eq_false_iff_ne, ne_eq, decide_eq_decide, Bool.not_eq_true, Bool.not_eq_false, Decidable.not_not] at h); first | skip)) | (apply v_guardB; (case h1 => rfl); (case h2 => rfl); all_goals (intro h; (try simp only [reduceCtorEq, dec_true, dec_false, decide_eq_true_eq, decide_eq_false_iff_not, Bool.not_eq_true', Bool.not_eq_false', Option.isNone_iff_eq_none, beq_true, beq_false, beq_iff_eq, beq_eq_false_iff_ne, ne_eq, decide_eq_decide, Bool.not_eq_true, Bool.not_eq_false, Decidable.not_not] at h); first | skip)) | (apply v_box (zs := x.cells); (case hx => rfl); (case hz => rfl); (case hd => rfl); intro b) | (apply v_callJ (hs := qm); (case ha => rfl); (case hd => rfl)) | (apply v_callJ (hs := qc); (case ha => rfl); (case hd => rfl)) | (apply v_read; (case hop => first | (apply r_loadNo; (case hx => rfl); (case h => (repeat (first | exact List.Mem.head _ | fail))); (case hd => (repeat (first | with_reducible exact dt_nil | apply dt_here | fail))); (case hn => rfl)) | (apply r_load1; rfl; (apply Cell.own; (case h => (repeat (first | exact List.Mem.head _ | fail))); rfl)) | fail); (case hd => rfl)) | fail)
  all_goals
    (refine v_ret [] (outsA1 rfl rfl) (by repeat (first | exact List.nil_sublist _ | fail)) ?_
     refine ⟨?_, rfl⟩
     first | (simp [oneI, *]; done) | fail)
/-! ### All -/
theorem esCell {G : GH} {A : Option Addr} {l : List Ent} (hcp : ∀ i (h : i < l.length), CellsG G ((adr A).add (i * 10)) l[i].cells) (i : Nat) (h : i < l.length) : GH.cell? G (((adr A).add (i * 10)).add 0) = some (.int .i64 l[i].index) := (hcp i h).cell (j := 0) rfl
noncomputable def chkK (l : List Ent) (k : Nat) : Int :=
  if h : k < l.length then if oneI l[k] ≠ 0 then oneI l[k] else if h0 : 0 < k then if l[k].index ≤ (l[k - 1]'(by omega)).index then 12 else chkK l (k + 1) else chkK l (k + 1) else 0
termination_by l.length - k
theorem entCheck_s {G : GH} (hT : TabsG G) {l : List Ent} {sv : Value} (hs : Es G sv l) : Con Tryd.prog 74 #[sv] G [] (Just (.int .i64 (chkK l 0)) G) := by
  obtain ⟨A, c, rfl, hlc, hcm, hsome, hcp, hcb, hcc, hok⟩ := esOpen hs
  simp only [maxLen] at hcm
  apply Con.just
  refine v_enter Tryd.func74 rfl Tryd.ntmps74 rfl (fun B => ?_)
  repeat' (first | apply v_seq | apply v_region | apply v_nil | apply v_block | (apply v_pure; (case hop => first | (apply p_move <;> rfl) | (apply p_assign <;> rfl) | (apply p_lenSlice <;> rfl) | fail); (case hd => rfl)) | fail)
  refine v_loop [8, 7, 6, 0] (fun us G' μ' => G' = G ∧ μ' = [] ∧ ∃ k, k ≤ l.length ∧ us = [Value.int .i64 (k : Nat), .int .i64 l.length, .slice A l.length c, .slice A l.length c] ∧ chkK l 0 = chkK l k) (fun us => l.length - (headI us).toNat) rfl ⟨rfl, rfl, 0, by omega, rfl, rfl⟩ ?_
  rintro us G' μ' ⟨rfl, rfl, k, hk, rfl, hno⟩
  have e1 : ((k : Nat) : Int).toNat = k := by omega
  have e2 : (((k : Nat) : Int) - 1).toNat = k - 1 := by omega
  have q1 := fun (h : k < l.length) => one_s hT l[k] (hok k h)
  repeat' (first | apply v_seq | apply v_region | apply v_nil | apply v_skip | apply v_block | (apply v_exit; (case hp => rfl)) | (apply v_pure; (case hop => first | (apply p_move <;> rfl) | (apply p_lt <;> rfl) | (apply p_ne <;> rfl) | (apply p_assign <;> rfl) | (apply p_indexAddrS; (case hx => rfl); (case hi => rfl); (case h0 => omega); (case h => omega); (case hA => first | (apply_assumption; omega))) | fail); (case hd => rfl)) | (apply v_cond; (case hc => rfl); all_goals (intro h; (try simp only [reduceCtorEq, dec_true, dec_false, decide_eq_true_eq, decide_eq_false_iff_not, Bool.not_eq_true', Bool.not_eq_false', Option.isNone_iff_eq_none, beq_true, beq_false, beq_iff_eq, beq_eq_false_iff_ne, ne_eq, decide_eq_decide, Bool.not_eq_true, Bool.not_eq_false, Decidable.not_not] at h); first | skip)) | (apply v_read; (case hop => first | (apply r_loadN; rfl; exact CellsAt.frozen (hcp _ (by omega)); rfl)); (case hd => rfl)) | (apply v_callJ (hs := q1 (by omega)); (case ha => rfl); (case hd => rfl)) | (apply v_read; (case hop => first | (apply r_loadNo; (case hx => rfl); (case h => (repeat (first | exact List.Mem.head _ | fail))); (case hd => (repeat (first | with_reducible exact dt_nil | apply dt_here | fail))); (case hn => rfl)) | fail); (case hd => rfl)) | (apply v_alloc; (case hz => rfl); (case hd => rfl); intro b) | (apply v_store; (case hp => rfl); (case hx => rfl); (case hc => rfl); (case hsz => rfl); (case h1 => rfl); (case hb => (repeat (first | exact List.Mem.head _ | fail))); (case hfit => first | exact Nat.le_of_ble_eq_true rfl | fail); (case hov => (first | ((repeat (first | with_reducible exact ov_nil | apply ov_cons | fail)); done) | fail)); (case hu => repeat (first | exact Upd.here _ _ | fail))) | fail)
  · refine v_ret [] (outsA1 rfl rfl) (by repeat (first | exact List.nil_sublist _ | fail)) ?_
    refine ⟨?_, rfl⟩
    rw [hno, chkK, dif_pos (by omega), if_pos (by assumption)]
  · have hlt : k < l.length := by omega
    refine d_start _ (by kernel_rfl) (by kernel_rfl) (fun _ he => he) ?_
    all_goals (first | (apply d_take 0; (case hi => rfl); (case hop => first | (apply PureOp.read; apply p_move <;> rfl)); (case hf => kernel_rfl); (case hr => kernel_rfl); (case hd => rfl)) | fail)
    all_goals (first | (apply d_take 1; (case hi => rfl); (case hop => first | (apply PureOp.read; apply p_gt <;> rfl)); (case hf => kernel_rfl); (case hr => kernel_rfl); (case hd => rfl)) | fail)
    all_goals (first | (apply d_take 2; (case hi => rfl); (case hop => first | (apply PureOp.read; apply p_move <;> rfl)); (case hf => kernel_rfl); (case hr => kernel_rfl); (case hd => rfl)) | fail)
    all_goals (try (apply d_guardB 3; (case hi => rfl); (case hgd => rfl); (case h1 => rfl); (case h2 => first | rfl); all_goals (intro h; (try simp only [reduceCtorEq, dec_true, dec_false, decide_eq_true_eq, decide_eq_false_iff_not, Bool.not_eq_true', Bool.not_eq_false', Option.isNone_iff_eq_none, beq_true, beq_false, beq_iff_eq, beq_eq_false_iff_ne, ne_eq, decide_eq_decide, Bool.not_eq_true, Bool.not_eq_false, Decidable.not_not] at h); first | skip)))
    all_goals (first | (apply d_pass 3; (case hi => rfl); (case hg => rfl); (case hn => rfl); (case hf => kernel_rfl); (case hr => kernel_rfl); (case hd => rfl)) | (apply d_takeG 3; (case hi => rfl); (case hg => rfl); (case hop => first | (apply PureOp.read; apply p_fieldAddrB <;> rfl) | fail); (case hf => kernel_rfl); (case hr => kernel_rfl); (case hd => rfl)) | fail)
    all_goals (try (apply d_guardB 4; (case hi => rfl); (case hgd => rfl); (case h1 => rfl); (case h2 => first | rfl); all_goals (intro h; (try simp only [reduceCtorEq, dec_true, dec_false, decide_eq_true_eq, decide_eq_false_iff_not, Bool.not_eq_true', Bool.not_eq_false', Option.isNone_iff_eq_none, beq_true, beq_false, beq_iff_eq, beq_eq_false_iff_ne, ne_eq, decide_eq_decide, Bool.not_eq_true, Bool.not_eq_false, Decidable.not_not] at h); first | done | skip)))
    all_goals (first | (apply d_pass 4; (case hi => rfl); (case hg => rfl); (case hn => rfl); (case hf => kernel_rfl); (case hr => kernel_rfl); (case hd => rfl)) | (apply d_takeG 4; (case hi => rfl); (case hg => rfl); (case hop => first | (apply r_load1; rfl; (apply Cell.own; (case h => (repeat (first | exact List.Mem.head _ | fail))); rfl)) | fail); (case hf => kernel_rfl); (case hr => kernel_rfl); (case hd => rfl)) | fail)
    all_goals (try (apply d_guardB 5; (case hi => rfl); (case hgd => rfl); (case h1 => rfl); (case h2 => first | rfl); all_goals (intro h; (try simp only [reduceCtorEq, dec_true, dec_false, decide_eq_true_eq, decide_eq_false_iff_not, Bool.not_eq_true', Bool.not_eq_false', Option.isNone_iff_eq_none, beq_true, beq_false, beq_iff_eq, beq_eq_false_iff_ne, ne_eq, decide_eq_decide, Bool.not_eq_true, Bool.not_eq_false, Decidable.not_not] at h); first | done | skip)))
    all_goals (first | (apply d_pass 5; (case hi => rfl); (case hg => rfl); (case hn => rfl); (case hf => kernel_rfl); (case hr => kernel_rfl); (case hd => rfl)) | (apply d_takeG 5; (case hi => rfl); (case hg => rfl); (case hop => first | (apply PureOp.read; apply p_move <;> rfl)); (case hf => kernel_rfl); (case hr => kernel_rfl); (case hd => rfl)) | fail)
    all_goals (try (apply d_guardB 6; (case hi => rfl); (case hgd => rfl); (case h1 => rfl); (case h2 => first | rfl); all_goals (intro h; (try simp only [reduceCtorEq, dec_true, dec_false, decide_eq_true_eq, decide_eq_false_iff_not, Bool.not_eq_true', Bool.not_eq_false', Option.isNone_iff_eq_none, beq_true, beq_false, beq_iff_eq, beq_eq_false_iff_ne, ne_eq, decide_eq_decide, Bool.not_eq_true, Bool.not_eq_false, Decidable.not_not] at h); first | done | skip)))
    all_goals (first | (apply d_pass 6; (case hi => rfl); (case hg => rfl); (case hn => rfl); (case hf => kernel_rfl); (case hr => kernel_rfl); (case hd => rfl)) | (apply d_takeG 6; (case hi => rfl); (case hg => rfl); (case hop => first | (apply PureOp.read; apply p_move <;> rfl)); (case hf => kernel_rfl); (case hr => kernel_rfl); (case hd => rfl)) | fail)
    all_goals (try (apply d_guardB 7; (case hi => rfl); (case hgd => rfl); (case h1 => rfl); (case h2 => first | rfl); all_goals (intro h; (try simp only [reduceCtorEq, dec_true, dec_false, decide_eq_true_eq, decide_eq_false_iff_not, Bool.not_eq_true', Bool.not_eq_false', Option.isNone_iff_eq_none, beq_true, beq_false, beq_iff_eq, beq_eq_false_iff_ne, ne_eq, decide_eq_decide, Bool.not_eq_true, Bool.not_eq_false, Decidable.not_not] at h); first | done | skip)))
    all_goals (first | (apply d_pass 7; (case hi => rfl); (case hg => rfl); (case hn => rfl); (case hf => kernel_rfl); (case hr => kernel_rfl); (case hd => rfl)) | (apply d_takeG 7; (case hi => rfl); (case hg => rfl); (case hop => first | (apply PureOp.read; apply p_sub; (case hx => rfl); (case hy => rfl); (case h => omega))); (case hf => kernel_rfl); (case hr => kernel_rfl); (case hd => rfl)) | fail)
    all_goals (try (apply d_guardB 8; (case hi => rfl); (case hgd => rfl); (case h1 => rfl); (case h2 => first | rfl); all_goals (intro h; (try simp only [reduceCtorEq, dec_true, dec_false, decide_eq_true_eq, decide_eq_false_iff_not, Bool.not_eq_true', Bool.not_eq_false', Option.isNone_iff_eq_none, beq_true, beq_false, beq_iff_eq, beq_eq_false_iff_ne, ne_eq, decide_eq_decide, Bool.not_eq_true, Bool.not_eq_false, Decidable.not_not] at h); first | done | skip)))
    all_goals (first | (apply d_pass 8; (case hi => rfl); (case hg => rfl); (case hn => rfl); (case hf => kernel_rfl); (case hr => kernel_rfl); (case hd => rfl)) | (apply d_takeG 8; (case hi => rfl); (case hg => rfl); (case hop => first | (apply PureOp.read; apply p_indexAddrS; (case hx => rfl); (case hi => rfl); (case h0 => omega); (case h => omega); (case hA => first | (apply_assumption; omega)))); (case hf => kernel_rfl); (case hr => kernel_rfl); (case hd => rfl)) | fail)
    all_goals (try (apply d_guardB 9; (case hi => rfl); (case hgd => rfl); (case h1 => rfl); (case h2 => first | rfl); all_goals (intro h; (try simp only [reduceCtorEq, dec_true, dec_false, decide_eq_true_eq, decide_eq_false_iff_not, Bool.not_eq_true', Bool.not_eq_false', Option.isNone_iff_eq_none, beq_true, beq_false, beq_iff_eq, beq_eq_false_iff_ne, ne_eq, decide_eq_decide, Bool.not_eq_true, Bool.not_eq_false, Decidable.not_not] at h); first | done | skip)))
    all_goals (first | (apply d_pass 9; (case hi => rfl); (case hg => rfl); (case hn => rfl); (case hf => kernel_rfl); (case hr => kernel_rfl); (case hd => rfl)) | (apply d_takeG 9; (case hi => rfl); (case hg => rfl); (case hop => first | (apply PureOp.read; apply p_fieldAddr <;> rfl)); (case hf => kernel_rfl); (case hr => kernel_rfl); (case hd => rfl)) | fail)
    all_goals (try (apply d_guardB 10; (case hi => rfl); (case hgd => rfl); (case h1 => rfl); (case h2 => first | rfl); all_goals (intro h; (try simp only [reduceCtorEq, dec_true, dec_false, decide_eq_true_eq, decide_eq_false_iff_not, Bool.not_eq_true', Bool.not_eq_false', Option.isNone_iff_eq_none, beq_true, beq_false, beq_iff_eq, beq_eq_false_iff_ne, ne_eq, decide_eq_decide, Bool.not_eq_true, Bool.not_eq_false, Decidable.not_not] at h); first | done | skip)))
    all_goals (first | (apply d_pass 10; (case hi => rfl); (case hg => rfl); (case hn => rfl); (case hf => kernel_rfl); (case hr => kernel_rfl); (case hd => rfl)) | (apply d_takeG 10; (case hi => rfl); (case hg => rfl); (case hop => first | ((apply r_load1; rfl; exact Cell.frozen (esCell hcp _ (by omega)))) | fail); (case hf => kernel_rfl); (case hr => kernel_rfl); (case hd => rfl)) | fail)
    all_goals (try (apply d_guardB 11; (case hi => rfl); (case hgd => rfl); (case h1 => rfl); (case h2 => first | rfl); all_goals (intro h; (try simp only [reduceCtorEq, dec_true, dec_false, decide_eq_true_eq, decide_eq_false_iff_not, Bool.not_eq_true', Bool.not_eq_false', Option.isNone_iff_eq_none, beq_true, beq_false, beq_iff_eq, beq_eq_false_iff_ne, ne_eq, decide_eq_decide, Bool.not_eq_true, Bool.not_eq_false, Decidable.not_not] at h); first | done | skip)))
    all_goals (first | (apply d_pass 11; (case hi => rfl); (case hg => rfl); (case hn => rfl); (case hf => kernel_rfl); (case hr => kernel_rfl); (case hd => rfl)) | (apply d_takeG 11; (case hi => rfl); (case hg => rfl); (case hop => first | (apply PureOp.read; apply p_le <;> rfl)); (case hf => kernel_rfl); (case hr => kernel_rfl); (case hd => rfl)) | fail)
    all_goals (first | (apply d_take 12; (case hi => rfl); (case hop => first | (apply PureOp.read; apply p_pickT <;> rfl) | (apply PureOp.read; apply p_pickF <;> rfl) | fail); (case hf => kernel_rfl); (case hr => kernel_rfl); (case hd => rfl)) | fail)
    all_goals (apply d_done; (case hr => kernel_rfl))
    repeat' (first | apply v_seq | apply v_region | apply v_nil | apply v_skip | apply v_blk | (apply v_pure; (case hop => first | (apply p_move <;> rfl) | (apply p_assign <;> rfl) | (apply p_add; (case hx => rfl); (case hy => rfl); (case h => omega)) | fail); (case hd => rfl)) | (apply v_condF; (case hc => rfl)) | (apply v_cond; (case hc => rfl); all_goals (intro h; (try simp only [reduceCtorEq, dec_true, dec_false, decide_eq_true_eq, decide_eq_false_iff_not, Bool.not_eq_true', Bool.not_eq_false', Option.isNone_iff_eq_none, beq_true, beq_false, beq_iff_eq, beq_eq_false_iff_ne, ne_eq, decide_eq_decide, Bool.not_eq_true, Bool.not_eq_false, Decidable.not_not] at h); first | skip)) | fail)
    all_goals try
      (refine v_ret [] (outsA1 rfl rfl) (by repeat (first | exact List.Sublist.refl _ | exact List.nil_sublist _ | fail)) ?_
       refine ⟨?_, rfl⟩
       rw [hno, chkK, dif_pos hlt, if_neg (by simpa using ‹oneI l[k] = 0›), dif_pos (by omega), if_pos (by simp only [e1, e2] at *; omega)])
    all_goals
      (refine v_drop (ν := []) (by repeat (first | exact List.nil_sublist _ | fail)) ?_
       refine v_again rfl ⟨rfl, rfl, k + 1, by omega, rfl, ?_⟩ (by simp [headI]; omega)
       rw [hno, chkK, dif_pos hlt, if_neg (by simpa using ‹oneI l[k] = 0›)]
       by_cases h0 : 0 < k
       · rw [dif_pos h0, if_neg (by simp only [e1, e2] at *; omega)]
       · rw [dif_neg h0])
  · refine v_ret [] (outsA1 rfl rfl) (by repeat (first | exact List.Sublist.refl _ | fail)) ?_
    refine ⟨?_, rfl⟩
    rw [hno, chkK, dif_neg (by omega)]
end Go.Proofs.YtnoiahlpmgbhfaaDoor
/-
  recone (layer 16), the fourth part: equal records; large ones.
-/
set_option linter.unusedSimpArgs false
set_option linter.unusedVariables false
namespace Go.Proofs.YtnoiahlpmgbhfaaDoor
open Go.Vx Go.ChangeShapes Go.WideShapes Go.ChangeAt Go.RowKit
theorem bEqual_s {G : GH} {a b : List Int} {av bv : Value} (ha : Sl G 1 (IntR .u8) av a) (hb : Sl G 1 (IntR .u8) bv b) : Con Tryd.prog 68 #[av, bv] G [] (Just (.bool (decide (a = b))) G) := by
  obtain ⟨A, c, rfl, hlc, hcm, hsome, hel, _⟩ := ha.openInt
  obtain ⟨A', c', rfl, hlc', hcm', hsome', hel', _⟩ := hb.openInt
  simp only [maxLen] at hcm hcm'
  refine v_enter Tryd.func68 rfl Tryd.ntmps68 rfl (fun B => ?_)
  repeat' (first | apply v_seq | apply v_region | apply v_nil | apply v_skip | apply v_block | (apply v_pure; (case hop => first | (apply p_move <;> rfl) | (apply p_ne <;> rfl) | (apply p_assign <;> rfl) | (apply p_lenSlice <;> rfl) | fail); (case hd => rfl)) | (apply v_cond; (case hc => rfl); all_goals (intro h; (try simp only [reduceCtorEq, dec_true, dec_false, decide_eq_true_eq, decide_eq_false_iff_not, Bool.not_eq_true', Bool.not_eq_false', Option.isNone_iff_eq_none, beq_true, beq_false, beq_iff_eq, beq_eq_false_iff_ne, ne_eq, decide_eq_decide, Bool.not_eq_true, Bool.not_eq_false, Decidable.not_not] at h); first | skip)) | fail)
  · refine v_ret [] (outsA1 rfl rfl) (by repeat (first | exact List.Sublist.refl _ | fail)) ?_
    refine ⟨?_, rfl, rfl⟩
    rw [decide_eq_false]
    intro e
    subst e
    omega
  have hab : a.length = b.length := by omega
  refine v_loop [13, 12, 0, 1] (fun us G' μ' => G' = G ∧ μ' = [] ∧ ∃ k, k ≤ a.length ∧ us = [Value.int .i64 (k : Nat), .int .i64 a.length, .slice A a.length c, .slice A' b.length c'] ∧ ∀ i (h : i < a.length) (h' : i < b.length), i < k → a[i] = b[i]) (fun us => a.length - (headI us).toNat) rfl ⟨rfl, rfl, 0, by omega, rfl, by omega⟩ ?_
  rintro us G' μ' ⟨rfl, rfl, k, hk, rfl, hno⟩
  repeat' (first | apply v_seq | apply v_region | apply v_nil | apply v_skip | apply v_block | (apply v_exit; (case hp => rfl)) | (apply v_pure; (case hop => first | (apply p_move <;> rfl) | (apply p_lt <;> rfl) | (apply p_assign <;> rfl) | fail); (case hd => rfl)) | (apply v_cond; (case hc => rfl); all_goals (intro h; (try simp only [reduceCtorEq, dec_true, dec_false, decide_eq_true_eq, decide_eq_false_iff_not, Bool.not_eq_true', Bool.not_eq_false', Option.isNone_iff_eq_none, beq_true, beq_false, beq_iff_eq, beq_eq_false_iff_ne, ne_eq, decide_eq_decide, Bool.not_eq_true, Bool.not_eq_false, Decidable.not_not] at h); first | skip)) | fail)
  · refine d_start [] (by kernel_rfl) (by kernel_rfl) (by intro e he; first | exact he | fail) ?_
    all_goals (first | (apply d_take 0; (case hi => rfl); (case hop => first | (apply PureOp.read; apply p_move <;> rfl)); (case hf => kernel_rfl); (case hr => kernel_rfl); (case hd => rfl)) | fail)
    all_goals (first | (apply d_take 1; (case hi => rfl); (case hop => first | (apply PureOp.read; apply p_move <;> rfl)); (case hf => kernel_rfl); (case hr => kernel_rfl); (case hd => rfl)) | fail)
    all_goals (first | (apply d_take 2; (case hi => rfl); (case hop => first | (apply PureOp.read; apply p_indexAddrS; (case hx => rfl); (case hi => rfl); (case h0 => omega); (case h => omega); (case hA => first | (apply_assumption; omega)))); (case hf => kernel_rfl); (case hr => kernel_rfl); (case hd => rfl)) | fail)
    all_goals (first | (apply d_take 3; (case hi => rfl); (case hop => first | ((apply r_load1; rfl; exact Cell.frozen (hel _ (by omega)))) | fail); (case hf => kernel_rfl); (case hr => kernel_rfl); (case hd => rfl)) | fail)
    all_goals (first | (apply d_take 4; (case hi => rfl); (case hop => first | (apply PureOp.read; apply p_move <;> rfl)); (case hf => kernel_rfl); (case hr => kernel_rfl); (case hd => rfl)) | fail)
    all_goals (first | (apply d_take 5; (case hi => rfl); (case hop => first | (apply PureOp.read; apply p_move <;> rfl)); (case hf => kernel_rfl); (case hr => kernel_rfl); (case hd => rfl)) | fail)
    all_goals (first | (apply d_take 6; (case hi => rfl); (case hop => first | (apply PureOp.read; apply p_indexAddrS; (case hx => rfl); (case hi => rfl); (case h0 => omega); (case h => omega); (case hA => first | (apply_assumption; omega)))); (case hf => kernel_rfl); (case hr => kernel_rfl); (case hd => rfl)) | fail)
    all_goals (first | (apply d_take 7; (case hi => rfl); (case hop => first | ((apply r_load1; rfl; exact Cell.frozen (hel' _ (by omega)))) | fail); (case hf => kernel_rfl); (case hr => kernel_rfl); (case hd => rfl)) | fail)
    all_goals (first | (apply d_take 8; (case hi => rfl); (case hop => first | (apply PureOp.read; apply p_ne <;> rfl) | fail); (case hf => kernel_rfl); (case hr => kernel_rfl); (case hd => rfl)) | fail)
    all_goals (apply d_done; (case hr => kernel_rfl))
    repeat' (first | apply v_seq | apply v_region | apply v_nil | apply v_skip | apply v_blk | (apply v_pure; (case hop => first | (apply p_move <;> rfl) | (apply p_assign <;> rfl) | (apply p_add; (case hx => rfl); (case hy => rfl); (case h => omega)) | fail); (case hd => rfl)) | (apply v_cond; (case hc => rfl); all_goals (intro h; (try simp only [reduceCtorEq, dec_true, dec_false, decide_eq_true_eq, decide_eq_false_iff_not, Bool.not_eq_true', Bool.not_eq_false', Option.isNone_iff_eq_none, beq_true, beq_false, beq_iff_eq, beq_eq_false_iff_ne, ne_eq, decide_eq_decide, Bool.not_eq_true, Bool.not_eq_false, Decidable.not_not] at h); first | skip)) | fail)
    · refine v_ret [] (outsA1 rfl rfl) (by repeat (first | exact List.Sublist.refl _ | fail)) ?_
      refine ⟨?_, rfl, rfl⟩
      rw [decide_eq_false]
      intro e
      subst e
      contradiction
    · refine v_again rfl ⟨rfl, rfl, k + 1, by omega, rfl, fun i h h' hi => ?_⟩ (by simp [headI]; omega)
      by_cases hik : i = k
      · subst hik; assumption
      · exact hno i h h' (by omega)
  · refine v_ret [] (outsA1 rfl rfl) (by repeat (first | exact List.Sublist.refl _ | fail)) ?_
    refine ⟨?_, rfl, rfl⟩
    rw [decide_eq_true]
    exact List.ext_getElem hab fun i h h' => hno i h h' (by omega)
theorem bSame_s {G : GH} {a b : List Int} {av bv : Value} (ha : Sl G 1 (IntR .u8) av a) (hb : Sl G 1 (IntR .u8) bv b) : Con Tryd.prog 15 #[av, bv] G [] (Just (.bool (decide (a = b))) G) := by
  obtain ⟨A, c, rfl, hlc, hcm, hsome, hel, _⟩ := ha.openInt
  obtain ⟨A', c', rfl, hlc', hcm', hsome', hel', _⟩ := hb.openInt
  simp only [maxLen] at hcm hcm'
  refine v_enter Tryd.func15 rfl Tryd.ntmps15 rfl (fun B => ?_)
  repeat' (first | apply v_seq | apply v_region | apply v_nil | apply v_skip | apply v_block | (apply v_pure; (case hop => first | (apply p_move <;> rfl) | (apply p_ne <;> rfl) | (apply p_assign <;> rfl) | (apply p_lenSlice <;> rfl) | fail); (case hd => rfl)) | (apply v_cond; (case hc => rfl); all_goals (intro h; (try simp only [reduceCtorEq, dec_true, dec_false, decide_eq_true_eq, decide_eq_false_iff_not, Bool.not_eq_true', Bool.not_eq_false', Option.isNone_iff_eq_none, beq_true, beq_false, beq_iff_eq, beq_eq_false_iff_ne, ne_eq, decide_eq_decide, Bool.not_eq_true, Bool.not_eq_false, Decidable.not_not] at h); first | skip)) | fail)
  · refine v_ret [] (outsA1 rfl rfl) (by repeat (first | exact List.Sublist.refl _ | fail)) ?_
    refine ⟨?_, rfl, rfl⟩
    rw [decide_eq_false]
    intro e
    subst e
    omega
  have hab : a.length = b.length := by omega
  refine v_loop [5, 0, 1] (fun us G' μ' => G' = G ∧ μ' = [] ∧ ∃ k, k ≤ a.length ∧ us = [Value.int .i64 (k : Nat), .slice A a.length c, .slice A' b.length c'] ∧ ∀ i (h : i < a.length) (h' : i < b.length), i < k → a[i] = b[i]) (fun us => a.length - (headI us).toNat) rfl ⟨rfl, rfl, 0, by omega, rfl, by omega⟩ ?_
  rintro us G' μ' ⟨rfl, rfl, k, hk, rfl, hno⟩
  repeat' (first | apply v_seq | apply v_region | apply v_nil | apply v_skip | apply v_block | (apply v_exit; (case hp => rfl)) | (apply v_pure; (case hop => first | (apply p_move <;> rfl) | (apply p_lt <;> rfl) | (apply p_assign <;> rfl) | (apply p_lenSlice <;> rfl) | fail); (case hd => rfl)) | (apply v_cond; (case hc => rfl); all_goals (intro h; (try simp only [reduceCtorEq, dec_true, dec_false, decide_eq_true_eq, decide_eq_false_iff_not, Bool.not_eq_true', Bool.not_eq_false', Option.isNone_iff_eq_none, beq_true, beq_false, beq_iff_eq, beq_eq_false_iff_ne, ne_eq, decide_eq_decide, Bool.not_eq_true, Bool.not_eq_false, Decidable.not_not] at h); first | skip)) | fail)
  · refine d_start [] (by kernel_rfl) (by kernel_rfl) (by intro e he; first | exact he | fail) ?_
    all_goals (first | (apply d_take 0; (case hi => rfl); (case hop => first | (apply PureOp.read; apply p_move <;> rfl)); (case hf => kernel_rfl); (case hr => kernel_rfl); (case hd => rfl)) | fail)
    all_goals (first | (apply d_take 1; (case hi => rfl); (case hop => first | (apply PureOp.read; apply p_move <;> rfl)); (case hf => kernel_rfl); (case hr => kernel_rfl); (case hd => rfl)) | fail)
    all_goals (first | (apply d_take 2; (case hi => rfl); (case hop => first | (apply PureOp.read; apply p_indexAddrS; (case hx => rfl); (case hi => rfl); (case h0 => omega); (case h => omega); (case hA => first | (apply_assumption; omega)))); (case hf => kernel_rfl); (case hr => kernel_rfl); (case hd => rfl)) | fail)
    all_goals (first | (apply d_take 3; (case hi => rfl); (case hop => first | ((apply r_load1; rfl; exact Cell.frozen (hel _ (by omega)))) | fail); (case hf => kernel_rfl); (case hr => kernel_rfl); (case hd => rfl)) | fail)
    all_goals (first | (apply d_take 4; (case hi => rfl); (case hop => first | (apply PureOp.read; apply p_move <;> rfl)); (case hf => kernel_rfl); (case hr => kernel_rfl); (case hd => rfl)) | fail)
    all_goals (first | (apply d_take 5; (case hi => rfl); (case hop => first | (apply PureOp.read; apply p_move <;> rfl)); (case hf => kernel_rfl); (case hr => kernel_rfl); (case hd => rfl)) | fail)
    all_goals (first | (apply d_take 6; (case hi => rfl); (case hop => first | (apply PureOp.read; apply p_indexAddrS; (case hx => rfl); (case hi => rfl); (case h0 => omega); (case h => omega); (case hA => first | (apply_assumption; omega)))); (case hf => kernel_rfl); (case hr => kernel_rfl); (case hd => rfl)) | fail)
    all_goals (first | (apply d_take 7; (case hi => rfl); (case hop => first | ((apply r_load1; rfl; exact Cell.frozen (hel' _ (by omega)))) | fail); (case hf => kernel_rfl); (case hr => kernel_rfl); (case hd => rfl)) | fail)
    all_goals (first | (apply d_take 8; (case hi => rfl); (case hop => first | (apply PureOp.read; apply p_ne <;> rfl) | fail); (case hf => kernel_rfl); (case hr => kernel_rfl); (case hd => rfl)) | fail)
    all_goals (apply d_done; (case hr => kernel_rfl))
    repeat' (first | apply v_seq | apply v_region | apply v_nil | apply v_skip | apply v_blk | (apply v_pure; (case hop => first | (apply p_move <;> rfl) | (apply p_assign <;> rfl) | (apply p_add; (case hx => rfl); (case hy => rfl); (case h => omega)) | fail); (case hd => rfl)) | (apply v_cond; (case hc => rfl); all_goals (intro h; (try simp only [reduceCtorEq, dec_true, dec_false, decide_eq_true_eq, decide_eq_false_iff_not, Bool.not_eq_true', Bool.not_eq_false', Option.isNone_iff_eq_none, beq_true, beq_false, beq_iff_eq, beq_eq_false_iff_ne, ne_eq, decide_eq_decide, Bool.not_eq_true, Bool.not_eq_false, Decidable.not_not] at h); first | skip)) | fail)
    · refine v_ret [] (outsA1 rfl rfl) (by repeat (first | exact List.Sublist.refl _ | fail)) ?_
      refine ⟨?_, rfl, rfl⟩
      rw [decide_eq_false]
      intro e
      subst e
      contradiction
    · refine v_again rfl ⟨rfl, rfl, k + 1, by omega, rfl, fun i h h' hi => ?_⟩ (by simp [headI]; omega)
      by_cases hik : i = k
      · subst hik; assumption
      · exact hno i h h' (by omega)
  · refine v_ret [] (outsA1 rfl rfl) (by repeat (first | exact List.Sublist.refl _ | fail)) ?_
    refine ⟨?_, rfl, rfl⟩
    rw [decide_eq_true]
    exact List.ext_getElem hab fun i h h' => hno i h h' (by omega)
/-- A record. -/
structure Rc where
  kind : Int
  round : Int
  node : Int
  index : Int
  cmd : Cm
  image : List Int
noncomputable instance : DecidableEq Rc := fun a b => Classical.propDecidable (a = b)
/-- Record x lies in cells; its image is frozen. -/
def RcV (G : GH) (x : Rc) (v : Value) : Prop := ∃ iv, v = .agg (recL x.kind x.round x.node x.index x.cmd iv).toArray ∧ Sl G 1 (IntR .u8) iv x.image
theorem RcV.le {G G' : GH} (h : GH.le G G') {x : Rc} {v : Value} (hx : RcV G x v) : RcV G' x v := let ⟨iv, h1, h2⟩ := hx; ⟨iv, h1, h2.mono h⟩
def Rc.large (x : Rc) : Prop := 200 < x.cmd.key.size ∨ 200 < x.cmd.val.size ∨ 200 < x.cmd.old.size ∨ (300 < x.image.length ∧ x.image.length < 32760) ∨ 32780 < x.image.length
instance (x : Rc) : Decidable x.large := by unfold Rc.large; infer_instance
end Go.Proofs.YtnoiahlpmgbhfaaDoor
/-
  pack (layer 4) and varint (layer 1), the first part: numbers are put behind bytes.
-/
set_option linter.unusedSimpArgs false
set_option linter.unusedVariables false
namespace Go.Proofs.YtnoiahlpmgbhfaaDoor
open Go.Vx Go.ChangeShapes Go.WideShapes Go.ChangeAt Go.RowKit
/-! ### Bytes -/
theorem bclone_s {G : GH} {l : List Int} {sv : Value} (hs : Sl G 1 (IntR .u8) sv l) (hl : l.length ≤ 1048576) : Con Tryd.prog 77 #[sv] G [] (fun r G' μ' => G' = G ∧ Grow 5 1 r l.length (l.map (.int .u8 ·)) μ') := by
  obtain ⟨A, c, rfl, hlc, hcm, hsome, hel, _⟩ := hs.openInt
  simp only [maxLen] at hcm
  refine v_enter Tryd.func77 rfl Tryd.ntmps77 rfl (fun B => ?_)
  repeat' (first | apply v_seq | apply v_region | apply v_nil | apply v_skip | (apply v_pure; (case hop => first | (apply p_move <;> rfl) | (apply p_assign <;> rfl) | (apply p_eqNilSlice <;> rfl)); (case hd => rfl)) | (apply v_cond; (case hc => rfl); all_goals (intro h; (try simp only [reduceCtorEq, dec_true, dec_false, decide_eq_true_eq, decide_eq_false_iff_not, Bool.not_eq_true', Bool.not_eq_false', Option.isNone_iff_eq_none, beq_true, beq_false, beq_iff_eq, beq_eq_false_iff_ne, ne_eq, decide_eq_decide, Bool.not_eq_true, Bool.not_eq_false, Decidable.not_not] at h); first | skip)) | (apply v_buildSlice; (case hz => rfl); (case hi => rfl); (case hv => (simp only [List.map_cons, List.map_nil]; repeat (first | with_reducible exact evs_nil | fail))); (case hp => (first | with_reducible exact pk_nil | fail)); (case hb => rfl); (case hd => rfl); intro b) | fail)
  · refine v_ret [] (outsA1 rfl rfl) (by repeat (first | exact List.Sublist.refl _ | fail)) ?_
    have : l = [] := by
      cases l with
      | nil => rfl
      | cons a l => have := hsome (by simp); simp_all
    subst this
    exact ⟨rfl, Grow.nil _ _⟩
  · refine v_append (e := 5) (sz := 1) (zero := .int .u8 0) rfl (by omega) rfl rfl Grow.empty (List.Perm.refl _) (Src.ints hs) (allOne_ints l) (by omega) (by simp only [maxLen]; omega) rfl ?_
    intro v' ν' hg
    repeat' (first | apply v_nil | (apply v_pure; (case hop => first | (apply p_assign <;> rfl) | fail); (case hd => rfl)) | fail)
    refine v_ret ν' (outsA1 rfl rfl) (by simp) ?_
    rw [Nat.zero_add, List.nil_append] at hg
    exact ⟨rfl, hg⟩
/-! ### A writer: a block of one cell, whose slice is frozen -/
end Go.Proofs.YtnoiahlpmgbhfaaDoor
/-
  recone (layer 16), the fifth part: what V1 has; the example.
-/
set_option linter.unusedSimpArgs false
set_option linter.unusedVariables false
namespace Go.Proofs.YtnoiahlpmgbhfaaDoor
open Go.Vx Go.ChangeShapes Go.WideShapes Go.ChangeAt Go.RowKit
def HasV (v k : Int) : Prop := (v = 1 ∧ 1 ≤ k ∧ k ≤ 8 ∧ k ≠ 5) ∨ (v = 2 ∧ 1 ≤ k ∧ k ≤ 8)
instance (v k : Int) : Decidable (HasV v k) := by unfold HasV; infer_instance
end Go.Proofs.YtnoiahlpmgbhfaaDoor
/-
  entry (layer 12), the second part: what may be, by the reference; too large; kinds that a version has.
-/
set_option linter.unusedSimpArgs false
set_option linter.unusedVariables false
namespace Go.Proofs.YtnoiahlpmgbhfaaDoor
open Go.Vx Go.ChangeShapes Go.WideShapes Go.ChangeAt Go.RowKit
theorem cmCell {G : GH} {A : Option Addr} {l : List Ent} (hcc : ∀ i (h : i < l.length), CellsG G (((adr A).add (i * 10)).add 3) l[i].cmd.cells) (i : Nat) (h : i < l.length) (j : Nat) (v : Value) (hv : l[i].cmd.cells[j]? = some v) : GH.cell? G ((((adr A).add (i * 10)).add 3).add j) = some v := (hcc i h).cell hv
theorem oneI_six {x : Ent} (h : x.index < 1 ∨ 4294967296 < x.index ∨ ¬ mayP x.round x.node) : oneI x = 6 := by rw [oneI, if_pos h]
theorem oneI_cmd {x : Ent} (h : ¬ x.index < 1) (h1 : ¬ 4294967296 < x.index) (h2 : mayP x.round x.node) : oneI x = cmdI x.cmd := by
  rw [oneI, if_neg]
  rintro (h' | h' | h')
  · exact h h'
  · exact h1 h'
  · exact h' h2
theorem chkK_bad {l : List Ent} {k : Nat} (hlt : k < l.length) {z : Int} (h : oneI l[k] = z) (hz : z ≠ 0) : chkK l k = z := by rw [chkK, dif_pos hlt, if_pos (by rw [h]; exact hz), h]
theorem chkK_low {l : List Ent} {k : Nat} (hlt : k < l.length) (h : oneI l[k] = 0) (h0 : 0 < k) (h1 : l[k].index ≤ (l[k - 1]'(by omega)).index) : chkK l k = 12 := by rw [chkK, dif_pos hlt, if_neg (by simpa using h), dif_pos h0, if_pos h1]
theorem chkK_next {l : List Ent} {k : Nat} (hlt : k < l.length) (h : oneI l[k] = 0) (h1 : ∀ h0 : 0 < k, ¬ l[k].index ≤ (l[k - 1]'(by omega)).index) : chkK l k = chkK l (k + 1) := by
  rw [chkK, dif_pos hlt, if_neg (by simpa using h)]
  by_cases h0 : 0 < k
  · rw [dif_pos h0, if_neg (h1 h0)]
  · rw [dif_neg h0]
theorem chkK_end {l : List Ent} {k : Nat} (h : ¬ k < l.length) : chkK l k = 0 := by rw [chkK, dif_neg h]
theorem refEntCheck_s {G : GH} {l : List Ent} {sv : Value} (hs : Es G sv l) : Con Tryd.prog 36 #[sv] G [] (Just (.int .i64 (chkK l 0)) G) := by
  obtain ⟨A, c, rfl, hlc, hcm, hsome, hcp, hcb, hcc, hok⟩ := esOpen hs
  simp only [maxLen] at hcm
  apply Con.just
  refine v_enter Tryd.func36 rfl Tryd.ntmps36 rfl (fun B => ?_)
  repeat' (first | apply v_seq | apply v_region | apply v_nil | apply v_block | (apply v_pure; (case hop => first | (apply p_assign <;> rfl) | fail); (case hd => rfl)) | fail)
  refine v_loop [3, 0] (fun us G' μ' => G' = G ∧ μ' = [] ∧ ∃ k, k ≤ l.length ∧ us = [Value.int .i64 (k : Nat), .slice A l.length c] ∧ chkK l 0 = chkK l k) (fun us => l.length - (headI us).toNat) rfl ⟨rfl, rfl, 0, by omega, rfl, rfl⟩ ?_
  rintro us G' μ' ⟨rfl, rfl, k, hk, rfl, hno⟩
  have e1 : ((k : Nat) : Int).toNat = k := by omega
  have e2 : (((k : Nat) : Int) - 1).toNat = k - 1 := by omega
  have qc := fun (h : k < l.length) => Con.just (refCmdCheck_s (G := G') l[k].cmd (hok k h).2.2.2)
  have qm := fun (h : k < l.length) => refMay_s G' l[k].round l[k].node
  repeat' (first | apply v_seq | apply v_region | apply v_nil | apply v_skip | apply v_block | (apply v_exit; (case hp => rfl)) | (apply v_take; (case hg => rfl)) | (apply v_pass; (case hg => rfl); (case hn => rfl); (case hd => rfl)) | (apply v_pure; (case hop => first | (apply p_move <;> rfl) | (apply p_lt <;> rfl) | (apply p_gt <;> rfl) | (apply p_ne <;> rfl) | (apply p_assign <;> rfl) | (apply p_pickT <;> rfl) | (apply p_pickF <;> rfl) | (apply p_not <;> rfl) | (apply p_lenSlice <;> rfl) | (apply p_fieldAddr <;> rfl) | (apply p_indexAddrS; (case hx => rfl); (case hi => rfl); (case h0 => omega); (case h => omega); (case hA => first | (apply_assumption; omega))) | fail); (case hd => rfl)) | (apply v_condT; (case hc => rfl)) | (apply v_cond; (case hc => rfl); all_goals (intro h; (try simp only [reduceCtorEq, dec_true, dec_false, decide_eq_true_eq, decide_eq_false_iff_not, Bool.not_eq_true', Bool.not_eq_false', Option.isNone_iff_eq_none, beq_true, beq_false, beq_iff_eq, beq_eq_false_iff_ne, ne_eq, decide_eq_decide, Bool.not_eq_true, Bool.not_eq_false, Decidable.not_not] at h); first | skip)) | (apply v_guardB; (case h1 => rfl); (case h2 => rfl); all_goals (intro h; (try simp only [reduceCtorEq, dec_true, dec_false, decide_eq_true_eq, decide_eq_false_iff_not, Bool.not_eq_true', Bool.not_eq_false', Option.isNone_iff_eq_none, beq_true, beq_false, beq_iff_eq, beq_eq_false_iff_ne, ne_eq, decide_eq_decide, Bool.not_eq_true, Bool.not_eq_false, Decidable.not_not] at h); first | skip)) | (apply v_read; (case hop => first | (apply r_load1; rfl; exact Cell.frozen (esCell hcp _ (by omega))) | (apply r_loadN; rfl; exact CellsAt.frozen (hcb _ (by omega)); rfl) | (apply r_loadN; rfl; exact CellsAt.frozen (hcc _ (by omega)); rfl) | fail); (case hd => rfl)) | (apply v_callJ (hs := qm (by omega)); (case ha => rfl); (case hd => rfl)) | (apply v_callJ (hs := qc (by omega)); (case ha => rfl); (case hd => rfl)) | fail)
  · refine v_ret [] (outsA1 rfl rfl) (by repeat (first | exact List.Sublist.refl _ | fail)) ?_
    refine ⟨?_, rfl⟩
    rw [hno, chkK_bad (by omega) (oneI_six (.inl (by assumption))) (by decide)]
  · refine v_ret [] (outsA1 rfl rfl) (by repeat (first | exact List.Sublist.refl _ | fail)) ?_
    refine ⟨?_, rfl⟩
    rw [hno, chkK_bad (by omega) (oneI_six (.inr (.inl (by assumption)))) (by decide)]
  · refine v_ret [] (outsA1 rfl rfl) (by repeat (first | exact List.Sublist.refl _ | fail)) ?_
    refine ⟨?_, rfl⟩
    rw [hno, chkK_bad (by omega) (oneI_six (.inr (.inr (by assumption)))) (by decide)]
  · refine v_ret [] (outsA1 rfl rfl) (by repeat (first | exact List.Sublist.refl _ | fail)) ?_
    refine ⟨?_, rfl⟩
    rw [hno, chkK_bad (by omega) (oneI_cmd (by assumption) (by assumption) (by assumption)) (by assumption)]
  · have hlt : k < l.length := by omega
    have q0 : oneI l[k] = 0 := by rw [oneI_cmd (by assumption) (by assumption) (by assumption)]; assumption
    clear qc qm
    refine d_start [] (by kernel_rfl) (by kernel_rfl) (by intro e he; first | exact he | fail) ?_
    all_goals (first | (apply d_take 0; (case hi => rfl); (case hop => first | (apply PureOp.read; apply p_move <;> rfl)); (case hf => kernel_rfl); (case hr => kernel_rfl); (case hd => rfl)) | fail)
    all_goals (first | (apply d_take 1; (case hi => rfl); (case hop => first | (apply PureOp.read; apply p_gt <;> rfl)); (case hf => kernel_rfl); (case hr => kernel_rfl); (case hd => rfl)) | fail)
    all_goals (first | (apply d_take 2; (case hi => rfl); (case hop => first | (apply PureOp.read; apply p_move <;> rfl)); (case hf => kernel_rfl); (case hr => kernel_rfl); (case hd => rfl)) | fail)
    all_goals (try (apply d_guardB 3; (case hi => rfl); (case hgd => rfl); (case h1 => rfl); (case h2 => first | rfl); all_goals (intro h; (try simp only [reduceCtorEq, dec_true, dec_false, decide_eq_true_eq, decide_eq_false_iff_not, Bool.not_eq_true', Bool.not_eq_false', Option.isNone_iff_eq_none, beq_true, beq_false, beq_iff_eq, beq_eq_false_iff_ne, ne_eq, decide_eq_decide, Bool.not_eq_true, Bool.not_eq_false, Decidable.not_not] at h); first | skip)))
    all_goals (first | (apply d_pass 3; (case hi => rfl); (case hg => rfl); (case hn => rfl); (case hf => kernel_rfl); (case hr => kernel_rfl); (case hd => rfl)) | (apply d_takeG 3; (case hi => rfl); (case hg => rfl); (case hop => first | (apply PureOp.read; apply p_move <;> rfl)); (case hf => kernel_rfl); (case hr => kernel_rfl); (case hd => rfl)) | fail)
    all_goals (try (apply d_guardB 4; (case hi => rfl); (case hgd => rfl); (case h1 => rfl); (case h2 => first | rfl); all_goals (intro h; (try simp only [reduceCtorEq, dec_true, dec_false, decide_eq_true_eq, decide_eq_false_iff_not, Bool.not_eq_true', Bool.not_eq_false', Option.isNone_iff_eq_none, beq_true, beq_false, beq_iff_eq, beq_eq_false_iff_ne, ne_eq, decide_eq_decide, Bool.not_eq_true, Bool.not_eq_false, Decidable.not_not] at h); first | done | skip)))
    all_goals (first | (apply d_pass 4; (case hi => rfl); (case hg => rfl); (case hn => rfl); (case hf => kernel_rfl); (case hr => kernel_rfl); (case hd => rfl)) | (apply d_takeG 4; (case hi => rfl); (case hg => rfl); (case hop => first | (apply PureOp.read; apply p_move <;> rfl)); (case hf => kernel_rfl); (case hr => kernel_rfl); (case hd => rfl)) | fail)
    all_goals (try (apply d_guardB 5; (case hi => rfl); (case hgd => rfl); (case h1 => rfl); (case h2 => first | rfl); all_goals (intro h; (try simp only [reduceCtorEq, dec_true, dec_false, decide_eq_true_eq, decide_eq_false_iff_not, Bool.not_eq_true', Bool.not_eq_false', Option.isNone_iff_eq_none, beq_true, beq_false, beq_iff_eq, beq_eq_false_iff_ne, ne_eq, decide_eq_decide, Bool.not_eq_true, Bool.not_eq_false, Decidable.not_not] at h); first | done | skip)))
    all_goals (first | (apply d_pass 5; (case hi => rfl); (case hg => rfl); (case hn => rfl); (case hf => kernel_rfl); (case hr => kernel_rfl); (case hd => rfl)) | (apply d_takeG 5; (case hi => rfl); (case hg => rfl); (case hop => first | (apply PureOp.read; apply p_indexAddrS; (case hx => rfl); (case hi => rfl); (case h0 => omega); (case h => omega); (case hA => first | (apply_assumption; omega)))); (case hf => kernel_rfl); (case hr => kernel_rfl); (case hd => rfl)) | fail)
    all_goals (try (apply d_guardB 6; (case hi => rfl); (case hgd => rfl); (case h1 => rfl); (case h2 => first | rfl); all_goals (intro h; (try simp only [reduceCtorEq, dec_true, dec_false, decide_eq_true_eq, decide_eq_false_iff_not, Bool.not_eq_true', Bool.not_eq_false', Option.isNone_iff_eq_none, beq_true, beq_false, beq_iff_eq, beq_eq_false_iff_ne, ne_eq, decide_eq_decide, Bool.not_eq_true, Bool.not_eq_false, Decidable.not_not] at h); first | done | skip)))
    all_goals (first | (apply d_pass 6; (case hi => rfl); (case hg => rfl); (case hn => rfl); (case hf => kernel_rfl); (case hr => kernel_rfl); (case hd => rfl)) | (apply d_takeG 6; (case hi => rfl); (case hg => rfl); (case hop => first | (apply PureOp.read; apply p_fieldAddr <;> rfl)); (case hf => kernel_rfl); (case hr => kernel_rfl); (case hd => rfl)) | fail)
    all_goals (try (apply d_guardB 7; (case hi => rfl); (case hgd => rfl); (case h1 => rfl); (case h2 => first | rfl); all_goals (intro h; (try simp only [reduceCtorEq, dec_true, dec_false, decide_eq_true_eq, decide_eq_false_iff_not, Bool.not_eq_true', Bool.not_eq_false', Option.isNone_iff_eq_none, beq_true, beq_false, beq_iff_eq, beq_eq_false_iff_ne, ne_eq, decide_eq_decide, Bool.not_eq_true, Bool.not_eq_false, Decidable.not_not] at h); first | done | skip)))
    all_goals (first | (apply d_pass 7; (case hi => rfl); (case hg => rfl); (case hn => rfl); (case hf => kernel_rfl); (case hr => kernel_rfl); (case hd => rfl)) | (apply d_takeG 7; (case hi => rfl); (case hg => rfl); (case hop => first | ((apply r_load1; rfl; exact Cell.frozen (esCell hcp _ (by omega)))) | fail); (case hf => kernel_rfl); (case hr => kernel_rfl); (case hd => rfl)) | fail)
    all_goals (try (apply d_guardB 8; (case hi => rfl); (case hgd => rfl); (case h1 => rfl); (case h2 => first | rfl); all_goals (intro h; (try simp only [reduceCtorEq, dec_true, dec_false, decide_eq_true_eq, decide_eq_false_iff_not, Bool.not_eq_true', Bool.not_eq_false', Option.isNone_iff_eq_none, beq_true, beq_false, beq_iff_eq, beq_eq_false_iff_ne, ne_eq, decide_eq_decide, Bool.not_eq_true, Bool.not_eq_false, Decidable.not_not] at h); first | done | skip)))
    all_goals (first | (apply d_pass 8; (case hi => rfl); (case hg => rfl); (case hn => rfl); (case hf => kernel_rfl); (case hr => kernel_rfl); (case hd => rfl)) | (apply d_takeG 8; (case hi => rfl); (case hg => rfl); (case hop => first | (apply PureOp.read; apply p_move <;> rfl)); (case hf => kernel_rfl); (case hr => kernel_rfl); (case hd => rfl)) | fail)
    all_goals (try (apply d_guardB 9; (case hi => rfl); (case hgd => rfl); (case h1 => rfl); (case h2 => first | rfl); all_goals (intro h; (try simp only [reduceCtorEq, dec_true, dec_false, decide_eq_true_eq, decide_eq_false_iff_not, Bool.not_eq_true', Bool.not_eq_false', Option.isNone_iff_eq_none, beq_true, beq_false, beq_iff_eq, beq_eq_false_iff_ne, ne_eq, decide_eq_decide, Bool.not_eq_true, Bool.not_eq_false, Decidable.not_not] at h); first | done | skip)))
    all_goals (first | (apply d_pass 9; (case hi => rfl); (case hg => rfl); (case hn => rfl); (case hf => kernel_rfl); (case hr => kernel_rfl); (case hd => rfl)) | (apply d_takeG 9; (case hi => rfl); (case hg => rfl); (case hop => first | (apply PureOp.read; apply p_move <;> rfl)); (case hf => kernel_rfl); (case hr => kernel_rfl); (case hd => rfl)) | fail)
    all_goals (try (apply d_guardB 10; (case hi => rfl); (case hgd => rfl); (case h1 => rfl); (case h2 => first | rfl); all_goals (intro h; (try simp only [reduceCtorEq, dec_true, dec_false, decide_eq_true_eq, decide_eq_false_iff_not, Bool.not_eq_true', Bool.not_eq_false', Option.isNone_iff_eq_none, beq_true, beq_false, beq_iff_eq, beq_eq_false_iff_ne, ne_eq, decide_eq_decide, Bool.not_eq_true, Bool.not_eq_false, Decidable.not_not] at h); first | done | skip)))
    all_goals (first | (apply d_pass 10; (case hi => rfl); (case hg => rfl); (case hn => rfl); (case hf => kernel_rfl); (case hr => kernel_rfl); (case hd => rfl)) | (apply d_takeG 10; (case hi => rfl); (case hg => rfl); (case hop => first | (apply PureOp.read; apply p_sub; (case hx => rfl); (case hy => rfl); (case h => omega))); (case hf => kernel_rfl); (case hr => kernel_rfl); (case hd => rfl)) | fail)
    all_goals (try (apply d_guardB 11; (case hi => rfl); (case hgd => rfl); (case h1 => rfl); (case h2 => first | rfl); all_goals (intro h; (try simp only [reduceCtorEq, dec_true, dec_false, decide_eq_true_eq, decide_eq_false_iff_not, Bool.not_eq_true', Bool.not_eq_false', Option.isNone_iff_eq_none, beq_true, beq_false, beq_iff_eq, beq_eq_false_iff_ne, ne_eq, decide_eq_decide, Bool.not_eq_true, Bool.not_eq_false, Decidable.not_not] at h); first | done | skip)))
    all_goals (first | (apply d_pass 11; (case hi => rfl); (case hg => rfl); (case hn => rfl); (case hf => kernel_rfl); (case hr => kernel_rfl); (case hd => rfl)) | (apply d_takeG 11; (case hi => rfl); (case hg => rfl); (case hop => first | (apply PureOp.read; apply p_indexAddrS; (case hx => rfl); (case hi => rfl); (case h0 => omega); (case h => omega); (case hA => first | (apply_assumption; omega)))); (case hf => kernel_rfl); (case hr => kernel_rfl); (case hd => rfl)) | fail)
    all_goals (try (apply d_guardB 12; (case hi => rfl); (case hgd => rfl); (case h1 => rfl); (case h2 => first | rfl); all_goals (intro h; (try simp only [reduceCtorEq, dec_true, dec_false, decide_eq_true_eq, decide_eq_false_iff_not, Bool.not_eq_true', Bool.not_eq_false', Option.isNone_iff_eq_none, beq_true, beq_false, beq_iff_eq, beq_eq_false_iff_ne, ne_eq, decide_eq_decide, Bool.not_eq_true, Bool.not_eq_false, Decidable.not_not] at h); first | done | skip)))
    all_goals (first | (apply d_pass 12; (case hi => rfl); (case hg => rfl); (case hn => rfl); (case hf => kernel_rfl); (case hr => kernel_rfl); (case hd => rfl)) | (apply d_takeG 12; (case hi => rfl); (case hg => rfl); (case hop => first | (apply PureOp.read; apply p_fieldAddr <;> rfl)); (case hf => kernel_rfl); (case hr => kernel_rfl); (case hd => rfl)) | fail)
    all_goals (try (apply d_guardB 13; (case hi => rfl); (case hgd => rfl); (case h1 => rfl); (case h2 => first | rfl); all_goals (intro h; (try simp only [reduceCtorEq, dec_true, dec_false, decide_eq_true_eq, decide_eq_false_iff_not, Bool.not_eq_true', Bool.not_eq_false', Option.isNone_iff_eq_none, beq_true, beq_false, beq_iff_eq, beq_eq_false_iff_ne, ne_eq, decide_eq_decide, Bool.not_eq_true, Bool.not_eq_false, Decidable.not_not] at h); first | done | skip)))
    all_goals (first | (apply d_pass 13; (case hi => rfl); (case hg => rfl); (case hn => rfl); (case hf => kernel_rfl); (case hr => kernel_rfl); (case hd => rfl)) | (apply d_takeG 13; (case hi => rfl); (case hg => rfl); (case hop => first | ((apply r_load1; rfl; exact Cell.frozen (esCell hcp _ (by omega)))) | fail); (case hf => kernel_rfl); (case hr => kernel_rfl); (case hd => rfl)) | fail)
    all_goals (try (apply d_guardB 14; (case hi => rfl); (case hgd => rfl); (case h1 => rfl); (case h2 => first | rfl); all_goals (intro h; (try simp only [reduceCtorEq, dec_true, dec_false, decide_eq_true_eq, decide_eq_false_iff_not, Bool.not_eq_true', Bool.not_eq_false', Option.isNone_iff_eq_none, beq_true, beq_false, beq_iff_eq, beq_eq_false_iff_ne, ne_eq, decide_eq_decide, Bool.not_eq_true, Bool.not_eq_false, Decidable.not_not] at h); first | done | skip)))
    all_goals (first | (apply d_pass 14; (case hi => rfl); (case hg => rfl); (case hn => rfl); (case hf => kernel_rfl); (case hr => kernel_rfl); (case hd => rfl)) | (apply d_takeG 14; (case hi => rfl); (case hg => rfl); (case hop => first | (apply PureOp.read; apply p_le <;> rfl)); (case hf => kernel_rfl); (case hr => kernel_rfl); (case hd => rfl)) | fail)
    all_goals (first | (apply d_take 15; (case hi => rfl); (case hop => first | (apply PureOp.read; apply p_pickT <;> rfl) | (apply PureOp.read; apply p_pickF <;> rfl) | fail); (case hf => kernel_rfl); (case hr => kernel_rfl); (case hd => rfl)) | fail)
    all_goals (apply d_done; (case hr => kernel_rfl))
    repeat' (first | apply v_seq | apply v_region | apply v_nil | apply v_skip | apply v_blk | (apply v_pure; (case hop => first | (apply p_move <;> rfl) | (apply p_assign <;> rfl) | (apply p_add; (case hx => rfl); (case hy => rfl); (case h => omega)) | fail); (case hd => rfl)) | (apply v_condF; (case hc => rfl)) | (apply v_cond; (case hc => rfl); all_goals (intro h; (try simp only [reduceCtorEq, dec_true, dec_false, decide_eq_true_eq, decide_eq_false_iff_not, Bool.not_eq_true', Bool.not_eq_false', Option.isNone_iff_eq_none, beq_true, beq_false, beq_iff_eq, beq_eq_false_iff_ne, ne_eq, decide_eq_decide, Bool.not_eq_true, Bool.not_eq_false, Decidable.not_not] at h); first | skip)) | fail)
    all_goals try
      (refine v_ret [] (outsA1 rfl rfl) (by repeat (first | exact List.Sublist.refl _ | fail)) ?_
       refine ⟨?_, rfl⟩
       rw [hno, chkK_low hlt q0 (by omega) (by simp only [e1, e2] at *; omega)])
    all_goals
      (refine v_again rfl ⟨rfl, rfl, k + 1, by omega, rfl, ?_⟩ (by simp [headI]; omega)
       rw [hno]
       exact chkK_next hlt q0 (fun h0 => by simp only [e1, e2] at *; omega))
  · refine v_ret [] (outsA1 rfl rfl) (by repeat (first | exact List.Sublist.refl _ | fail)) ?_
    refine ⟨?_, rfl⟩
    rw [hno, chkK_end (by omega)]
/-! ### Kinds that a version has -/
def HasAll (v : Int) (l : List Ent) : Prop := ∀ i (h : i < l.length), HasV v l[i].cmd.kind
noncomputable instance (v : Int) (l : List Ent) : Decidable (HasAll v l) := Classical.propDecidable _
end Go.Proofs.YtnoiahlpmgbhfaaDoor
/-
  entry (layer 12), the fourth part: the place of an index (slices.BinarySearchFunc).
-/
set_option linter.unusedSimpArgs false
set_option linter.unusedVariables false
namespace Go.Proofs.YtnoiahlpmgbhfaaDoor
open Go.Vx Go.ChangeShapes Go.WideShapes Go.ChangeAt Go.RowKit
theorem p_convUW {σ : Env} {ty : TypeId} {x : Operand} {k'' : IntKind} {a : Int} {t u : TypeId} [Ty Tryd.prog t (.int k'')] [Ty Tryd.prog u (.int .u64)] (hx : Env.ev σ x = some (.int .i64 (IntKind.i64.wrap a))) (h : 0 ≤ a ∧ a ≤ 18446744073709551615) : PureOp Tryd.prog (.convert t u x) ty σ (.int .u64 a) := by
  have e : IntKind.u64.wrap (IntKind.i64.wrap a) = a := by rw [IntKind.wrap_u64, IntKind.wrap_i64]; omega
  have := p_conv (P := Tryd.prog) (ty := ty) (t := t) (u := u) hx
  rwa [e] at this
attribute [local semireducible] PureOp in
theorem p_shr1 {σ : Env} {ty : TypeId} {x y : Operand} {k' : IntKind} {a : Int} {t t' : TypeId} (hx : Env.ev σ x = some (.int .u64 a)) (hy : Env.ev σ y = some (.int k' 1)) : PureOp Tryd.prog (.binOp .shr t x y t') ty σ (.int .u64 (a / 2)) := by
  intro dst pos af g ρ hρ w
  have := shift_shr .u64 k' a 1 (by decide) (by decide)
  simp [execOp, hρ _ _ hx, hρ _ _ hy, eqGuard, binOp_shr, this]
theorem isNaN_s (G : GH) (a : Int) : Con Tryd.prog 155 #[.int .i64 a] G [] (Just (.bool false) G) := by
  apply Con.just
  refine v_enter Tryd.func155 rfl Tryd.ntmps155 rfl (fun B => ?_)
  repeat' (first | apply v_seq | apply v_region | apply v_nil | (apply v_pure; (case hop => first | (apply p_move <;> rfl) | (apply p_nes <;> rfl) | (apply p_assign <;> rfl) | fail); (case hd => rfl)) | fail)
  refine v_ret [] (outsA1 rfl rfl) (by repeat (first | exact List.Sublist.refl _ | fail)) ?_
  refine ⟨?_, rfl⟩
  simp [dec_eq]
def cmpI (a b : Int) : Int := if a < b then -1 else if b < a then 1 else 0
theorem cmp_s (G : GH) (a b : Int) : Con Tryd.prog 127 #[.int .i64 a, .int .i64 b] G [] (Just (.int .i64 (cmpI a b)) G) := by
  have qa := isNaN_s G a
  have qb := isNaN_s G b
  apply Con.just
  refine v_enter Tryd.func127 rfl Tryd.ntmps127 rfl (fun B => ?_)
  repeat' (first | apply v_seq | apply v_region | apply v_nil | apply v_skip | (apply v_pure; (case hop => first | (apply p_move <;> rfl) | (apply p_lt <;> rfl) | (apply p_gt <;> rfl) | (apply p_assign <;> rfl)); (case hd => rfl)) | (apply v_condF; (case hc => rfl)) | (apply v_cond; (case hc => rfl); all_goals (intro h; (try simp only [reduceCtorEq, dec_true, dec_false, decide_eq_true_eq, decide_eq_false_iff_not, Bool.not_eq_true', Bool.not_eq_false', Option.isNone_iff_eq_none, beq_true, beq_false, beq_iff_eq, beq_eq_false_iff_ne, ne_eq, decide_eq_decide, Bool.not_eq_true, Bool.not_eq_false, Decidable.not_not] at h); first | skip)) | (apply v_callJ (hs := qa); (case ha => rfl); (case hd => rfl)) | (apply v_callJ (hs := qb); (case ha => rfl); (case hd => rfl)) | fail)
  all_goals
    (refine v_ret [] (outsA1 rfl rfl) (by repeat (first | exact List.Sublist.refl _ | fail)) ?_
     refine ⟨?_, rfl⟩
     simp [cmpI, *])
theorem cmpI_lt {a b : Int} : cmpI a b < 0 ↔ a < b := by unfold cmpI; split <;> (try split) <;> simp <;> omega
theorem cmpI_eq {a b : Int} : cmpI a b = 0 ↔ a = b := by unfold cmpI; split <;> (try split) <;> simp <;> omega
theorem place1_s (G : GH) (x : Ent) (n : Int) : Con Tryd.prog 151 #[.agg x.cells.toArray, .int .i64 n] G [] (Just (.int .i64 (cmpI x.index n)) G) := by
  have qc := cmp_s G x.index n
  apply Con.just
  refine v_enter Tryd.func151 rfl Tryd.ntmps151 rfl (fun B => ?_)
  repeat' (first | apply v_seq | apply v_region | apply v_nil | (apply v_pure; (case hop => first | (apply p_move <;> rfl) | (apply p_assign <;> rfl) | (apply p_fieldAddrB <;> rfl) | fail); (case hd => rfl)) | (apply v_box (zs := x.cells); (case hx => rfl); (case hz => rfl); (case hd => rfl); intro b) | (apply v_callJ (hs := qc); (case ha => rfl); (case hd => rfl)) | (apply v_read; (case hop => first | (apply r_load1; rfl; (apply Cell.own; (case h => (repeat (first | exact List.Mem.head _ | fail))); rfl)) | fail); (case hd => rfl)) | fail)
  refine v_ret [] (outsA1 rfl rfl) (by repeat (first | exact List.nil_sublist _ | fail)) ?_
  exact ⟨rfl, rfl⟩
/-- Indices rise. -/
def RiseL (l : List Ent) : Prop := ∀ i j (hj : j < l.length) (h : i < j), (l[i]'(by omega)).index < l[j].index
def placeN (l : List Ent) (n : Int) : Nat := l.countP fun x => decide (x.index < n)
theorem placeN_eq {l : List Ent} {n : Int} {i : Nat} (hi : i ≤ l.length) (h1 : ∀ m (h : m < l.length), m < i → l[m].index < n) (h2 : ∀ m (h : m < l.length), i ≤ m → ¬ l[m].index < n) : placeN l n = i := by
  have e : l = l.take i ++ l.drop i := (List.take_append_drop i l).symm
  rw [placeN, e, List.countP_append, List.countP_eq_length.2, List.countP_eq_zero.2, List.length_take, Nat.add_zero]
  · omega
  · intro x hx
    obtain ⟨m, hm, rfl⟩ := List.getElem_of_mem hx
    rw [List.length_drop] at hm
    rw [List.getElem_drop]
    simpa using h2 (i + m) (by omega) (by omega)
  · intro x hx
    obtain ⟨m, hm, rfl⟩ := List.getElem_of_mem hx
    rw [List.length_take] at hm
    rw [List.getElem_take]
    simpa using h1 m (by omega) (by omega)
noncomputable def hitB (l : List Ent) (n : Int) : Bool := if h : placeN l n < l.length then decide ((l[placeN l n]).index = n) else false
theorem entSearch_s {G : GH} {l : List Ent} {sv : Value} (n : Int) (hs : Es G sv l) (hr : RiseL l) : Con Tryd.prog 150 #[sv, .int .i64 n, .func (.func 151) #[] #[]] G [] (Just (.tuple [.int .i64 (placeN l n : Nat), .bool (hitB l n)].toArray) G) := by
  obtain ⟨A, c, rfl, hlc, hcm, hsome, hcp, hcb, hcc, hok⟩ := esOpen hs
  simp only [maxLen] at hcm
  apply Con.just
  refine v_enter Tryd.func150 rfl Tryd.ntmps150 rfl (fun B => ?_)
  repeat' (first | apply v_seq | apply v_region | apply v_nil | apply v_block | (apply v_pure; (case hop => first | (apply p_move <;> rfl) | (apply p_assign <;> rfl) | (apply p_lenSlice <;> rfl) | fail); (case hd => rfl)) | fail)
  refine v_loop [9, 10, 8, 0, 1, 2] (fun us G' μ' => G' = G ∧ μ' = [] ∧ ∃ i j : Nat, i ≤ j ∧ j ≤ l.length ∧ us = [Value.int .i64 (i : Nat), .int .i64 (j : Nat), .int .i64 l.length, .slice A l.length c, .int .i64 n, .func (.func 151) #[] #[]] ∧ (∀ m (h : m < l.length), m < i → l[m].index < n) ∧ (∀ m (h : m < l.length), j ≤ m → ¬ l[m].index < n)) (fun us => match us with | .int _ i :: .int _ j :: _ => (j - i).toNat | _ => 0) rfl ⟨rfl, rfl, 0, l.length, by omega, by omega, rfl, by omega, by omega⟩ ?_
  rintro us G' μ' ⟨rfl, rfl, i, j, hij, hj, rfl, h1, h2⟩
  have qp := fun (m : Nat) (h : m < l.length) => place1_s G' l[m] n
  have em : ((((i : Nat) : Int) + ((j : Nat) : Int)) / 2).toNat = (i + j) / 2 := by omega
  repeat' (first | apply v_seq | apply v_region | apply v_nil | apply v_skip | apply v_block | apply v_blk | (apply v_exit; (case hp => rfl)) | (apply v_take; (case hg => rfl)) | (apply v_pass; (case hg => rfl); (case hn => rfl); (case hd => rfl)) | (apply v_pure; (case hop => first | (apply p_move <;> rfl) | (apply p_eq <;> rfl) | (apply p_lt <;> rfl) | (apply p_assign <;> rfl) | (apply p_pickT <;> rfl) | (apply p_pickF <;> rfl) | (apply p_add; (case hx => rfl); (case hy => rfl); (case h => omega)) | (apply p_indexAddrS; (case hx => rfl); (case hi => rfl); (case h0 => omega); (case h => omega); (case hA => first | (apply_assumption; omega))) | (apply p_conv64; (case hx => rfl); (case h => omega)) | fail); (case hd => rfl)) | (apply v_cond; (case hc => rfl); all_goals (intro h; (try simp only [reduceCtorEq, dec_true, dec_false, decide_eq_true_eq, decide_eq_false_iff_not, Bool.not_eq_true', Bool.not_eq_false', Option.isNone_iff_eq_none, beq_true, beq_false, beq_iff_eq, beq_eq_false_iff_ne, ne_eq, decide_eq_decide, Bool.not_eq_true, Bool.not_eq_false, Decidable.not_not] at h); first | skip)) | (apply v_guardB; (case h1 => rfl); (case h2 => rfl); all_goals (intro h; (try simp only [reduceCtorEq, dec_true, dec_false, decide_eq_true_eq, decide_eq_false_iff_not, Bool.not_eq_true', Bool.not_eq_false', Option.isNone_iff_eq_none, beq_true, beq_false, beq_iff_eq, beq_eq_false_iff_ne, ne_eq, decide_eq_decide, Bool.not_eq_true, Bool.not_eq_false, Decidable.not_not] at h); first | skip)) | (apply v_pure; (case hop => (apply p_convUW; (case hx => rfl); (case h => omega))); (case hd => rfl)) | (apply v_pure; (case hop => (apply p_addw; (case hx => rfl); (case hy => rfl))); (case hd => rfl)) | (apply v_pure; (case hop => (apply p_shr1; (case hx => rfl); (case hy => rfl))); (case hd => rfl)) | (apply v_read; (case hop => first | (apply r_loadN; rfl; exact CellsAt.frozen (hcp _ (by omega)); rfl)); (case hd => rfl)) | (apply v_callFJ0 (hs := qp ((((i : Nat) : Int) + ((j : Nat) : Int)) / 2).toNat (by omega)); (case hx => rfl); (case ha => rfl); (case hd => rfl)) | (apply v_callFJ0 (hs := qp i (by omega)); (case hx => rfl); (case ha => rfl); (case hd => rfl)) | fail)
  · have hc : (l[(i + j) / 2]'(by omega)).index < n := by
      have h0 := cmpI_lt.1 ‹cmpI _ _ < 0›
      simpa only [em] using h0
    refine v_again rfl ⟨rfl, rfl, (i + j) / 2 + 1, j, by omega, hj, rfl, fun m hm hlt => ?_, h2⟩ ?_
    · by_cases he : m = (i + j) / 2
      · subst he; exact hc
      · have := hr m ((i + j) / 2) (by omega) (by omega)
        omega
    · simp only; omega
  · have hc : ¬ (l[(i + j) / 2]'(by omega)).index < n := by
      have h0 := mt cmpI_lt.2 ‹¬ cmpI _ _ < 0›
      simpa only [em] using h0
    refine v_again rfl ⟨rfl, rfl, i, (i + j) / 2, by omega, by omega, rfl, h1, fun m hm hlt => ?_⟩ ?_
    · by_cases he : m = (i + j) / 2
      · subst he; exact hc
      · have := hr ((i + j) / 2) m hm (by omega)
        omega
    · simp only; omega
  · have hp : placeN l n = i := placeN_eq (by omega) h1 (fun m h hm => h2 m h (by omega))
    refine v_ret [] (outsA2 rfl rfl rfl) (by repeat (first | exact List.Sublist.refl _ | fail)) ?_
    refine ⟨?_, rfl⟩
    unfold hitB
    simp only [hp]
    rw [dif_pos (by omega)]
    congr 5
    rw [Bool.eq_iff_iff, dec_true, decide_eq_true_iff, cmpI_eq]
  · have hp : placeN l n = i := placeN_eq (by omega) h1 (fun m h hm => h2 m h (by omega))
    refine v_ret [] (outsA2 rfl rfl rfl) (by repeat (first | exact List.Sublist.refl _ | fail)) ?_
    refine ⟨?_, rfl⟩
    unfold hitB
    simp only [hp]
    rw [dif_neg (by omega)]
theorem place_s {G : GH} {l : List Ent} {sv : Value} (n : Int) (hs : Es G sv l) (hr : RiseL l) : Con Tryd.prog 118 #[sv, .int .i64 n] G [] (Just (.tuple [.int .i64 (placeN l n : Nat), .bool (hitB l n)].toArray) G) := by
  have qs := entSearch_s n hs hr
  apply Con.just
  refine v_enter Tryd.func118 rfl Tryd.ntmps118 rfl (fun B => ?_)
  repeat' (first | apply v_seq | apply v_region | apply v_nil | (apply v_pure; (case hop => first | (apply p_move <;> rfl) | (apply p_assign <;> rfl) | (apply p_extract0 <;> rfl) | (apply p_extract1 <;> rfl) | fail); (case hd => rfl)) | (apply v_callJ (hs := qs); (case ha => rfl); (case hd => rfl)) | fail)
  refine v_ret [] (outsA2 rfl rfl rfl) (by repeat (first | exact List.Sublist.refl _ | fail)) ?_
  exact ⟨rfl, rfl⟩
end Go.Proofs.YtnoiahlpmgbhfaaDoor
