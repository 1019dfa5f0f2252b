/-
  Texts (layer 5), the second part: what the reference's readers answer.
-/
import Derived.Test.YtnoiahlpmgbhfaaDoorM1
import Derived.Shelf.Unicode.DecodeAny
import Derived.Lib.AppendZerosOnto
import Derived.Lib.Overlaps
set_option linter.unusedSimpArgs false
set_option linter.unusedVariables false
namespace Go.Proofs.YtnoiahlpmgbhfaaDoor
open Go.Vx Go.ChangeShapes Go.WideShapes Go.ChangeAt Go.RowKit
def szV (s : ByteArray) (i : Nat) : Value := .tuple [.int .i64 ((szR s i).1 : Int), .int .i64 ((szR s i).2 : Int)].toArray
theorem szV_of {s : ByteArray} {i a b : Nat} (h : szR s i = (a, b)) {x y : Int} (hx : x = a) (hy : y = b) : Value.tuple #[.int .i64 x, .int .i64 y] = szV s i := by
  unfold szV; rw [h, hx, hy]
theorem acc_lt (s : ByteArray) (i v : Nat) (hv : v < 256) : ∀ k, k ≤ 3 → acc s i v k < 256 * 128 ^ k
  | 0, _ => by
    show v < 256 * 128 ^ 0
    omega
  | k + 1, hk => by
    have ih := acc_lt s i v hv k (by omega)
    have h1 := byt_lt s (i + (k + 1))
    have h2 : (128 : Nat) ^ (k + 1) = 128 * 128 ^ k := by rw [Nat.pow_succ, Nat.mul_comm]
    have h3 : 0 < (128 : Nat) ^ k := Nat.pos_of_ne_zero (by simp)
    have h4 : acc s i v (k + 1) = 64 * acc s i v k + byt s (i + (k + 1)) - 128 := rfl
    omega
theorem acc_lt3 (s : ByteArray) (i v : Nat) (hv : v < 256) (k : Nat) (hk : k ≤ 3) : acc s i v k < 536870912 := by
  have := acc_lt s i v hv k hk
  have h2 : (128 : Nat) ^ k ≤ 128 ^ 3 := Nat.pow_le_pow_right (by omega) hk
  have h3 : (128 : Nat) ^ 3 = 2097152 := by decide
  omega
theorem contB_mono {s : ByteArray} {i m : Nat} (h : contB s i m = true) : ∀ {k}, k ≤ m → contB s i k = true := by
  induction m with
  | zero =>
    intro k hk
    have e : k = 0 := by omega
    rw [e]; exact h
  | succ m ih =>
    intro k hk
    by_cases e : k = m + 1
    · subst e; exact h
    · refine ih ?_ (by omega)
      have h2 : (contB s i m && (decide (128 ≤ byt s (i + (m + 1))) && decide (byt s (i + (m + 1)) ≤ 191))) = true := h
      rw [Bool.and_eq_true] at h2
      exact h2.1
theorem size_s {G : GH} {s : ByteArray} {i : Nat} (hi : i < s.size) (hs : s.size ≤ 1000000) : Con Tryd.prog 146 #[.string s, .int .i64 (i : Int)] G [] (Just (szV s i) G) := by
  have b0 := byt_lt s i
  have ei : ((i : Nat) : Int).toNat = i := Int.toNat_natCast i
  refine v_enter Tryd.func146 rfl Tryd.ntmps146 rfl (fun B => ?_)
  repeat' (first | apply v_seq | apply v_region | apply v_nil | apply v_skip | apply v_block | apply v_blk | (apply v_take; (case hg => rfl)) | (apply v_pass; (case hg => rfl); (case hn => rfl); (case hd => rfl)) | (apply v_pure; (case hop => first | (apply p_move <;> rfl) | (apply p_lt <;> rfl) | (apply p_gt <;> rfl) | (apply p_le <;> rfl) | (apply p_ge <;> rfl) | (apply p_assign <;> rfl) | (apply p_pickT <;> rfl) | (apply p_pickF <;> rfl) | (apply p_add; (case hx => rfl); (case hy => rfl); (case h => omega)) | (apply p_sub; (case hx => rfl); (case hy => rfl); (case h => omega)) | (apply p_lenString <;> rfl) | (apply p_convB <;> rfl) | (apply p_indexSn; (case hx => rfl); (case hi => rfl); all_goals omega) | fail); (case hd => rfl)) | (apply v_condF; (case hc => rfl)) | (apply v_cond; (case hc => rfl); all_goals (intro h; (try simp only [reduceCtorEq, dec_true, dec_false, decide_eq_true_eq, decide_eq_false_iff_not, Bool.not_eq_true', Bool.not_eq_false', Option.isNone_iff_eq_none, beq_true, beq_false, beq_iff_eq, beq_eq_false_iff_ne, ne_eq, decide_eq_decide, Bool.not_eq_true, Bool.not_eq_false, Decidable.not_not] at h); first | skip)) | (apply v_guardB; (case h1 => rfl); (case h2 => rfl); all_goals (intro h; (try simp only [reduceCtorEq, dec_true, dec_false, decide_eq_true_eq, decide_eq_false_iff_not, Bool.not_eq_true', Bool.not_eq_false', Option.isNone_iff_eq_none, beq_true, beq_false, beq_iff_eq, beq_eq_false_iff_ne, ne_eq, decide_eq_decide, Bool.not_eq_true, Bool.not_eq_false, Decidable.not_not] at h); first | (exfalso; omega) | skip)) | fail)
  all_goals try
    (refine v_ret [] (outsA2 rfl rfl rfl) (by repeat (first | exact List.Sublist.refl _ | fail)) ?_
     refine ⟨szV_of (a := 1) (b := byt s i) ?_ rfl rfl, rfl, rfl⟩
     unfold szR
     rw [if_pos (by omega)])
  all_goals try
    (refine v_ret [] (outsA2 rfl rfl rfl) (by repeat (first | exact List.Sublist.refl _ | fail)) ?_
     refine ⟨szV_of (a := 0) (b := 0) ?_ rfl rfl, rfl, rfl⟩
     unfold szR
     first
       | rw [if_neg (show ¬ byt s i < 128 by omega), if_pos (show 194 ≤ byt s i ∧ byt s i ≤ 223 by omega), szFin_short (by omega)]
       | rw [if_neg (show ¬ byt s i < 128 by omega), if_neg (show ¬ (194 ≤ byt s i ∧ byt s i ≤ 223) by omega), if_pos (show 224 ≤ byt s i ∧ byt s i ≤ 239 by omega), szFin_short (by omega)]
       | rw [if_neg (show ¬ byt s i < 128 by omega), if_neg (show ¬ (194 ≤ byt s i ∧ byt s i ≤ 223) by omega), if_neg (show ¬ (224 ≤ byt s i ∧ byt s i ≤ 239) by omega), if_pos (show 240 ≤ byt s i ∧ byt s i ≤ 244 by omega), szFin_short (by omega)]
       | rw [if_neg (show ¬ byt s i < 128 by omega), if_neg (show ¬ (194 ≤ byt s i ∧ byt s i ≤ 223) by omega), if_neg (show ¬ (224 ≤ byt s i ∧ byt s i ≤ 239) by omega), if_neg (show ¬ (240 ≤ byt s i ∧ byt s i ≤ 244) by omega)])
  all_goals
    (refine v_loop [10, 9, 7, 8, 0, 1] (fun us G' μ' => G' = G ∧ μ' = [] ∧ ∃ (k m low v : Nat) (x N L : Int), us = [Value.int .i64 ((k : Int) + 1), .int .i64 x, .int .i64 N, .int .i64 L, .string s, .int .i64 (i : Int)] ∧ N = (m : Int) + 1 ∧ L = low ∧ x = (acc s i v k : Nat) ∧ k ≤ m ∧ m ≤ 3 ∧ v < 256 ∧ i + (m + 1) ≤ s.size ∧ contB s i k = true ∧ szR s i = szFin s i m low v) (fun us => 5 - (headI us).toNat) rfl ?_ ?_
     · refine ⟨rfl, rfl, ?_⟩
       first
         | exact ⟨0, 1, 128, byt s i - 192, _, _, _, rfl, rfl, rfl, by show _ = ((byt s i - 192 : Nat) : Int); omega, by omega, by omega, by omega, by omega, rfl, by unfold szR; rw [if_neg (show ¬ byt s i < 128 by omega), if_pos (show 194 ≤ byt s i ∧ byt s i ≤ 223 by omega)]⟩
         | exact ⟨0, 2, 2048, byt s i - 224, _, _, _, rfl, rfl, rfl, by show _ = ((byt s i - 224 : Nat) : Int); omega, by omega, by omega, by omega, by omega, rfl, by unfold szR; rw [if_neg (show ¬ byt s i < 128 by omega), if_neg (show ¬ (194 ≤ byt s i ∧ byt s i ≤ 223) by omega), if_pos (show 224 ≤ byt s i ∧ byt s i ≤ 239 by omega)]⟩
         | exact ⟨0, 3, 65536, byt s i - 240, _, _, _, rfl, rfl, rfl, by show _ = ((byt s i - 240 : Nat) : Int); omega, by omega, by omega, by omega, by omega, rfl, by unfold szR; rw [if_neg (show ¬ byt s i < 128 by omega), if_neg (show ¬ (194 ≤ byt s i ∧ byt s i ≤ 223) by omega), if_neg (show ¬ (224 ≤ byt s i ∧ byt s i ≤ 239) by omega), if_pos (show 240 ≤ byt s i ∧ byt s i ≤ 244 by omega)]⟩
     rintro us G' μ' ⟨rfl, rfl, k, m, low, v, x, N, L, rfl, rfl, rfl, rfl, hk, hm, hv, him, hcb, hsz⟩
     have ha := acc_lt3 s i v hv k (by omega)
     have bk := byt_lt s (i + (k + 1))
     have ek : ((i : Int) + ((k : Int) + 1)).toNat = i + (k + 1) := by omega
     have hacc : acc s i v (k + 1) = 64 * acc s i v k + byt s (i + (k + 1)) - 128 := rfl
     have hcon : contB s i (k + 1) = (contB s i k && (decide (128 ≤ byt s (i + (k + 1))) && decide (byt s (i + (k + 1)) ≤ 191))) := rfl
     repeat' (first | (apply v_pure; (case hop => (apply p_indexSb; (case hx => rfl); (case hi => rfl); all_goals omega)); (case hd => rfl); rw [ek]) | apply v_seq | apply v_region | apply v_nil | apply v_skip | apply v_block | apply v_blk | (apply v_exit; (case hp => rfl)) | (apply v_take; (case hg => rfl)) | (apply v_pass; (case hg => rfl); (case hn => rfl); (case hd => rfl)) | (apply v_passN; (case hg => rfl); (case hn => rfl); (case hd => rfl)) | (apply v_pure; (case hop => first | (apply p_move <;> rfl) | (apply p_lt <;> rfl) | (apply p_gt <;> rfl) | (apply p_le <;> rfl) | (apply p_ge <;> rfl) | (apply p_assign <;> rfl) | (apply p_pickT <;> rfl) | (apply p_pickF <;> rfl) | (apply p_add; (case hx => rfl); (case hy => rfl); (case h => omega)) | (apply p_sub; (case hx => rfl); (case hy => rfl); (case h => omega)) | (apply p_convB <;> rfl) | (apply p_mul; (case hx => rfl); (case hy => rfl); (case h => omega))); (case hd => rfl)) | (apply v_condT; (case hc => rfl)) | (apply v_condF; (case hc => rfl)) | (apply v_cond; (case hc => rfl); all_goals (intro h; (try simp only [reduceCtorEq, dec_true, dec_false, decide_eq_true_eq, decide_eq_false_iff_not, Bool.not_eq_true', Bool.not_eq_false', Option.isNone_iff_eq_none, beq_true, beq_false, beq_iff_eq, beq_eq_false_iff_ne, ne_eq, decide_eq_decide, Bool.not_eq_true, Bool.not_eq_false, Decidable.not_not] at h); first | skip)) | (apply v_guardB; (case h1 => rfl); (case h2 => rfl); all_goals (intro h; (try simp only [reduceCtorEq, dec_true, dec_false, decide_eq_true_eq, decide_eq_false_iff_not, Bool.not_eq_true', Bool.not_eq_false', Option.isNone_iff_eq_none, beq_true, beq_false, beq_iff_eq, beq_eq_false_iff_ne, ne_eq, decide_eq_decide, Bool.not_eq_true, Bool.not_eq_false, Decidable.not_not] at h); first | skip)) | fail)
     all_goals try
       (refine v_ret [] (outsA2 rfl rfl rfl) (by repeat (first | exact List.Sublist.refl _ | fail)) ?_
        refine ⟨szV_of (a := 0) (b := 0) ?_ rfl rfl, rfl, rfl⟩
        rw [hsz]
        first
          | (have : k + 1 ≤ m := by omega
             refine szFin_cont ?_
             cases hc : contB s i m with
             | false => rfl
             | true =>
               have h2 := contB_mono hc this
               rw [hcon] at h2
               simp only [Bool.and_eq_true, decide_eq_true_eq] at h2
               omega)
          | (obtain rfl : k = m := by omega
             refine szFin_low ?_
             omega))
     all_goals try
       (refine v_ret [] (outsA2 rfl rfl rfl) (by repeat (first | exact List.Sublist.refl _ | fail)) ?_
        obtain rfl : k = m := by omega
        refine ⟨szV_of (a := k + 1) (b := acc s i v k) ?_ (by omega) rfl, rfl, rfl⟩
        rw [hsz]
        exact szFin_ok (by omega) hcb (by omega))
     refine v_again rfl ⟨rfl, rfl, k + 1, m, low, v, _, _, _, rfl, rfl, rfl, by rw [hacc]; omega, by omega, hm, hv, him, ?_, hsz⟩ (by simp [headI]; omega)
     rw [hcon, hcb]
     simp only [Bool.true_and, Bool.and_eq_true, decide_eq_true_eq]
     omega)
/-! ### Plain -/
def plainP (r : Int) : Prop := (97 ≤ r ∧ r ≤ 122) ∨ (65 ≤ r ∧ r ≤ 90) ∨ (48 ≤ r ∧ r ≤ 57) ∨ r = 45 ∨ r = 95 ∨ r = 46 ∨ r = 58 ∨ (161 ≤ r ∧ r ≠ 65533)
instance (r : Int) : Decidable (plainP r) := by unfold plainP; infer_instance
theorem byt_list (l : List UInt8) (j : Nat) : byt ⟨l.toArray⟩ j = (l.getD j 0).toNat := by
  unfold byt
  congr 1
  by_cases h : j < l.length
  · simp [ByteArray.get!, h]
  · simp [ByteArray.get!, h]
    rfl
def plainL : List UInt8 := [97, 98, 99, 100, 101, 102, 103, 104, 105, 106, 107, 108, 109, 110, 111, 112, 113, 114, 115, 116, 117, 118, 119, 120, 121, 122, 65, 66, 67, 68, 69, 70, 71] ++ [72, 73, 74, 75, 76, 77, 78, 79, 80, 81, 82, 83, 84, 85, 86, 87, 88, 89, 90, 48, 49, 50, 51, 52, 53, 54, 55, 56, 57, 45, 95, 46, 58]
theorem plainL_all : (List.range 66).all (fun j => decide (plainP ((plainL.getD j 0).toNat : Int))) = true := by decide +kernel
theorem plainL_has : (List.range 128).all (fun c => !decide (plainP (c : Int)) || ((List.range 66).any fun j => decide ((plainL.getD j 0).toNat = c))) = true := by decide +kernel
theorem plain_s (G : GH) (r : Int) : Con Tryd.prog 147 #[.int .i64 r] G [] (Just (.bool (decide (plainP r))) G) := by
  refine v_enter Tryd.func147 rfl Tryd.ntmps147 rfl (fun B => ?_)
  repeat' (first | apply v_seq | apply v_region | apply v_nil | apply v_block | (apply v_pure; (case hop => first | (apply p_assign <;> rfl) | fail); (case hd => rfl)) | fail)
  refine v_loop [4, 3, 0] (fun us G' μ' => G' = G ∧ μ' = [] ∧ ∃ (k : Nat) (sL : ByteArray), us = [Value.int .i64 (k : Int), .string sL, .int .i64 r] ∧ k ≤ 66 ∧ sL.size = 66 ∧ (∀ j, byt sL j = (plainL.getD j 0).toNat) ∧ ∀ j, j < k → ((plainL.getD j 0).toNat : Int) ≠ r) (fun us => 67 - (headI us).toNat) rfl ⟨rfl, rfl, 0, _, rfl, by omega, rfl, fun j => byt_list plainL j, by omega⟩ ?_
  rintro us G' μ' ⟨rfl, rfl, k, sL, rfl, hk, hsz, hb, hno⟩
  repeat' (first | apply v_seq | apply v_region | apply v_nil | apply v_skip | apply v_block | apply v_blk | (apply v_exit; (case hp => rfl)) | (apply v_take; (case hg => rfl)) | (apply v_pass; (case hg => rfl); (case hn => rfl); (case hd => rfl)) | (apply v_pure; (case hop => first | (apply p_move <;> rfl) | (apply p_eq <;> rfl) | (apply p_lt <;> rfl) | (apply p_ne <;> rfl) | (apply p_ge <;> rfl) | (apply p_assign <;> rfl) | (apply p_pickT <;> rfl) | (apply p_pickF <;> rfl) | (apply p_add; (case hx => rfl); (case hy => rfl); (case h => omega)) | (apply p_lenString <;> rfl) | (apply p_convB <;> rfl) | (apply p_indexSn; (case hx => rfl); (case hi => rfl); all_goals omega) | fail); (case hd => rfl)) | (apply v_cond; (case hc => rfl); all_goals (intro h; (try simp only [reduceCtorEq, dec_true, dec_false, decide_eq_true_eq, decide_eq_false_iff_not, Bool.not_eq_true', Bool.not_eq_false', Option.isNone_iff_eq_none, beq_true, beq_false, beq_iff_eq, beq_eq_false_iff_ne, ne_eq, decide_eq_decide, Bool.not_eq_true, Bool.not_eq_false, Decidable.not_not] at h); first | skip)) | (apply v_guardB; (case h1 => rfl); (case h2 => rfl); all_goals (intro h; (try simp only [reduceCtorEq, dec_true, dec_false, decide_eq_true_eq, decide_eq_false_iff_not, Bool.not_eq_true', Bool.not_eq_false', Option.isNone_iff_eq_none, beq_true, beq_false, beq_iff_eq, beq_eq_false_iff_ne, ne_eq, decide_eq_decide, Bool.not_eq_true, Bool.not_eq_false, Decidable.not_not] at h); first | skip)) | fail)
  · refine v_ret [] (outsA1 rfl rfl) (by repeat (first | exact List.Sublist.refl _ | fail)) ?_
    refine ⟨?_, rfl, rfl⟩
    have h1 := List.all_eq_true.1 plainL_all k (by simp; omega)
    rename_i h
    rw [hb] at h
    rw [decide_eq_true_eq, h] at h1
    rw [decide_eq_true h1]
  · refine v_again rfl ⟨rfl, rfl, k + 1, sL, rfl, by omega, hsz, hb, fun j hj => ?_⟩ (by simp [headI]; omega)
    by_cases e : j = k
    · subst e
      rename_i h
      rw [hb] at h
      exact h
    · exact hno j (by omega)
  all_goals
    (have hn : ¬ (0 ≤ r ∧ r < 128 ∧ plainP r) := by
       rintro ⟨h0, h1, h2⟩
       have h3 := List.all_eq_true.1 plainL_has r.toNat (by simp; omega)
       have e : ((r.toNat : Nat) : Int) = r := by omega
       simp only [Bool.or_eq_true, Bool.not_eq_true', decide_eq_false_iff_not, e, List.any_eq_true, List.mem_range, decide_eq_true_eq] at h3
       rcases h3 with h3 | ⟨j, hj, h3⟩
       · exact h3 h2
       · exact hno j (by omega) (by omega)
     refine v_ret [] (outsA1 rfl rfl) (by repeat (first | exact List.Sublist.refl _ | fail)) ?_
     refine ⟨?_, rfl, rfl⟩
     first
       | (have h161 : 161 ≤ r := by assumption
          by_cases hr : r = 65533
          · rw [dec_pos hr, decide_eq_false (by unfold plainP; omega)]; rfl
          · rw [dec_neg hr, decide_eq_true (by unfold plainP; omega)]; rfl)
       | (rw [decide_eq_false]
          intro h
          refine hn ⟨?_, ?_, h⟩ <;> (unfold plainP at h; omega)))
/-! ### The first bad place; keys; values -/
def badR (s : ByteArray) : Nat → Nat → Int
  | 0, _ => -1
  | n + 1, p => if p < s.size then (if (szR s p).1 = 0 then (p : Int) else badR s n (p + (szR s p).1)) else -1
def keyR (s : ByteArray) : Nat → Nat → Bool
  | 0, _ => true
  | n + 1, p => if p < s.size then (if (szR s p).1 = 0 then false else if plainP ((szR s p).2 : Int) then keyR s n (p + (szR s p).1) else false) else true
def keyB (s : ByteArray) : Bool := (decide (1 ≤ s.size) && decide (s.size ≤ 24)) && keyR s s.size 0
def okBytes (s : ByteArray) : Prop := ∀ i, i < s.size → 32 ≤ byt s i ∧ byt s i ≠ 127
noncomputable instance (s : ByteArray) : Decidable (okBytes s) := Classical.propDecidable _
noncomputable def valB (s : ByteArray) : Bool := (decide (s.size ≤ 48) && decide (badR s s.size 0 < 0)) && decide (okBytes s)
theorem badR_end {s : ByteArray} {n p : Nat} (h : ¬ p < s.size) : badR s n p = -1 := by
  cases n with
  | zero => rfl
  | succ n => unfold badR; rw [if_neg h]
theorem keyR_end {s : ByteArray} {n p : Nat} (h : ¬ p < s.size) : keyR s n p = true := by
  cases n with
  | zero => rfl
  | succ n => unfold keyR; rw [if_neg h]
theorem fuel {s : ByteArray} {n p : Nat} (h : p < s.size) (hn : s.size ≤ p + n) : ∃ m, n = m + 1 := ⟨n - 1, by omega⟩
theorem szR_le (s : ByteArray) (p : Nat) : (szR s p).1 ≤ 4 := by
  unfold szR szFin
  repeat' split
  all_goals simp
theorem refBad_s {G : GH} {s : ByteArray} (hs : s.size ≤ 1000000) : Con Tryd.prog 148 #[.string s] G [] (Just (.int .i64 (badR s s.size 0)) G) := by
  refine v_enter Tryd.func148 rfl Tryd.ntmps148 rfl (fun B => ?_)
  repeat' (first | apply v_seq | apply v_region | apply v_nil | apply v_block | (apply v_pure; (case hop => first | (apply p_assign <;> rfl) | fail); (case hd => rfl)) | fail)
  refine v_loop [3, 0] (fun us G' μ' => G' = G ∧ μ' = [] ∧ ∃ (p n : Nat), us = [Value.int .i64 (p : Int), .string s] ∧ s.size ≤ p + n ∧ p ≤ s.size + 4 ∧ badR s s.size 0 = badR s n p) (fun us => s.size - (headI us).toNat) rfl ⟨rfl, rfl, 0, s.size, rfl, by omega, by omega, rfl⟩ ?_
  rintro us G' μ' ⟨rfl, rfl, p, n, rfl, hn, hp, he⟩
  have h4 := szR_le s p
  repeat' (first | apply v_seq | apply v_region | apply v_nil | apply v_skip | apply v_block | apply v_blk | (apply v_exit; (case hp => rfl)) | (apply v_pure; (case hop => first | (apply p_move <;> rfl) | (apply p_eq <;> rfl) | (apply p_lt <;> rfl) | (apply p_assign <;> rfl) | (apply p_extract0 <;> rfl) | (apply p_extract1 <;> rfl) | (apply p_add; (case hx => rfl); (case hy => rfl); (case h => omega)) | (apply p_lenString <;> rfl) | fail); (case hd => rfl)) | (apply v_cond; (case hc => rfl); all_goals (intro h; (try simp only [reduceCtorEq, dec_true, dec_false, decide_eq_true_eq, decide_eq_false_iff_not, Bool.not_eq_true', Bool.not_eq_false', Option.isNone_iff_eq_none, beq_true, beq_false, beq_iff_eq, beq_eq_false_iff_ne, ne_eq, decide_eq_decide, Bool.not_eq_true, Bool.not_eq_false, Decidable.not_not] at h); first | skip)) | (apply v_callJ (hs := size_s ?o1 ?o2); (case ha => rfl); (case o1 => omega); (case o2 => omega); (case hd => rfl)) | fail)
  · obtain ⟨m, rfl⟩ := fuel (by omega) hn
    refine v_ret [] (outsA1 rfl rfl) (by repeat (first | exact List.Sublist.refl _ | fail)) ?_
    refine ⟨?_, rfl, rfl⟩
    rw [he, badR, if_pos (by omega), if_pos (by omega)]
  · obtain ⟨m, rfl⟩ := fuel (by omega) hn
    refine v_again rfl ⟨rfl, rfl, p + (szR s p).1, m, rfl, by omega, by omega, ?_⟩ (by simp [headI]; omega)
    rw [he, badR, if_pos (by omega), if_neg (by omega)]
  · refine v_ret [] (outsA1 rfl rfl) (by repeat (first | exact List.Sublist.refl _ | fail)) ?_
    refine ⟨?_, rfl, rfl⟩
    rw [he, badR_end (by omega)]
theorem refKey_s {G : GH} {s : ByteArray} (hs : s.size ≤ 9223372036854775807) : Con Tryd.prog 107 #[.string s] G [] (Just (.bool (keyB s)) G) := by
  refine v_enter Tryd.func107 rfl Tryd.ntmps107 rfl (fun B => ?_)
  repeat' (first | apply v_seq | apply v_region | apply v_nil | apply v_skip | apply v_block | (apply v_take; (case hg => rfl)) | (apply v_pass; (case hg => rfl); (case hn => rfl); (case hd => rfl)) | (apply v_pure; (case hop => first | (apply p_move <;> rfl) | (apply p_lt <;> rfl) | (apply p_gt <;> rfl) | (apply p_assign <;> rfl) | (apply p_pickT <;> rfl) | (apply p_pickF <;> rfl) | (apply p_lenString <;> rfl) | fail); (case hd => rfl)) | (apply v_condT; (case hc => rfl)) | (apply v_cond; (case hc => rfl); all_goals (intro h; (try simp only [reduceCtorEq, dec_true, dec_false, decide_eq_true_eq, decide_eq_false_iff_not, Bool.not_eq_true', Bool.not_eq_false', Option.isNone_iff_eq_none, beq_true, beq_false, beq_iff_eq, beq_eq_false_iff_ne, ne_eq, decide_eq_decide, Bool.not_eq_true, Bool.not_eq_false, Decidable.not_not] at h); first | skip)) | (apply v_guardB; (case h1 => rfl); (case h2 => rfl); all_goals (intro h; (try simp only [reduceCtorEq, dec_true, dec_false, decide_eq_true_eq, decide_eq_false_iff_not, Bool.not_eq_true', Bool.not_eq_false', Option.isNone_iff_eq_none, beq_true, beq_false, beq_iff_eq, beq_eq_false_iff_ne, ne_eq, decide_eq_decide, Bool.not_eq_true, Bool.not_eq_false, Decidable.not_not] at h); first | skip)) | fail)
  all_goals try
    (refine v_ret [] (outsA1 rfl rfl) (by repeat (first | exact List.Sublist.refl _ | fail)) ?_
     refine ⟨?_, rfl, rfl⟩
     have : (decide (1 ≤ s.size) && decide (s.size ≤ 24)) = false := by
       rw [Bool.and_eq_false_iff, decide_eq_false_iff_not, decide_eq_false_iff_not]; omega
     rw [keyB, this]; rfl)
  have hk : keyB s = keyR s s.size 0 := by
    rw [keyB, decide_eq_true (by omega), decide_eq_true (by omega)]; rfl
  refine v_loop [3, 0] (fun us G' μ' => G' = G ∧ μ' = [] ∧ ∃ (p n : Nat), us = [Value.int .i64 (p : Int), .string s] ∧ s.size ≤ p + n ∧ p ≤ s.size + 4 ∧ keyB s = keyR s n p) (fun us => s.size - (headI us).toNat) rfl ⟨rfl, rfl, 0, s.size, rfl, by omega, by omega, hk⟩ ?_
  rintro us G' μ' ⟨rfl, rfl, p, n, rfl, hn, hp, he⟩
  have h4 := szR_le s p
  repeat' (first | apply v_seq | apply v_region | apply v_nil | apply v_skip | apply v_block | apply v_blk | (apply v_exit; (case hp => rfl)) | (apply v_take; (case hg => rfl)) | (apply v_pass; (case hg => rfl); (case hn => rfl); (case hd => rfl)) | (apply v_pure; (case hop => first | (apply p_move <;> rfl) | (apply p_eq <;> rfl) | (apply p_lt <;> rfl) | (apply p_assign <;> rfl) | (apply p_pickT <;> rfl) | (apply p_pickF <;> rfl) | (apply p_not <;> rfl) | (apply p_extract0 <;> rfl) | (apply p_extract1 <;> rfl) | (apply p_add; (case hx => rfl); (case hy => rfl); (case h => omega)) | (apply p_lenString <;> rfl) | fail); (case hd => rfl)) | (apply v_condT; (case hc => rfl)) | (apply v_cond; (case hc => rfl); all_goals (intro h; (try simp only [reduceCtorEq, dec_true, dec_false, decide_eq_true_eq, decide_eq_false_iff_not, Bool.not_eq_true', Bool.not_eq_false', Option.isNone_iff_eq_none, beq_true, beq_false, beq_iff_eq, beq_eq_false_iff_ne, ne_eq, decide_eq_decide, Bool.not_eq_true, Bool.not_eq_false, Decidable.not_not] at h); first | skip)) | (apply v_guardB; (case h1 => rfl); (case h2 => rfl); all_goals (intro h; (try simp only [reduceCtorEq, dec_true, dec_false, decide_eq_true_eq, decide_eq_false_iff_not, Bool.not_eq_true', Bool.not_eq_false', Option.isNone_iff_eq_none, beq_true, beq_false, beq_iff_eq, beq_eq_false_iff_ne, ne_eq, decide_eq_decide, Bool.not_eq_true, Bool.not_eq_false, Decidable.not_not] at h); first | skip)) | (apply v_callJ (hs := size_s ?o1 ?o2); (case ha => rfl); (case o1 => omega); (case o2 => omega); (case hd => rfl)) | (apply v_callJ (hs := plain_s _ _); (case ha => rfl); (case hd => rfl)) | fail)
  · obtain ⟨m, rfl⟩ := fuel (by omega) hn
    refine v_ret [] (outsA1 rfl rfl) (by repeat (first | exact List.Sublist.refl _ | fail)) ?_
    refine ⟨?_, rfl, rfl⟩
    rw [he, keyR, if_pos (by omega), if_pos (by omega)]
  · obtain ⟨m, rfl⟩ := fuel (by omega) hn
    refine v_ret [] (outsA1 rfl rfl) (by repeat (first | exact List.Sublist.refl _ | fail)) ?_
    refine ⟨?_, rfl, rfl⟩
    rw [he, keyR, if_pos (by omega), if_neg (by omega), if_neg (by assumption)]
  · obtain ⟨m, rfl⟩ := fuel (by omega) hn
    refine v_again rfl ⟨rfl, rfl, p + (szR s p).1, m, rfl, by omega, by omega, ?_⟩ (by simp [headI]; omega)
    rw [he, keyR, if_pos (by omega), if_neg (by omega), if_pos (by assumption)]
  · refine v_ret [] (outsA1 rfl rfl) (by repeat (first | exact List.Sublist.refl _ | fail)) ?_
    refine ⟨?_, rfl, rfl⟩
    rw [he, keyR_end (by omega)]
theorem refVal_s {G : GH} {s : ByteArray} (hs : s.size ≤ 9223372036854775807) : Con Tryd.prog 108 #[.string s] G [] (Just (.bool (valB s)) G) := by
  refine v_enter Tryd.func108 rfl Tryd.ntmps108 rfl (fun B => ?_)
  repeat' (first | apply v_seq | apply v_region | apply v_nil | apply v_skip | apply v_block | (apply v_take; (case hg => rfl)) | (apply v_pass; (case hg => rfl); (case hn => rfl); (case hd => rfl)) | (apply v_pure; (case hop => first | (apply p_move <;> rfl) | (apply p_gt <;> rfl) | (apply p_ge <;> rfl) | (apply p_assign <;> rfl) | (apply p_pickT <;> rfl) | (apply p_pickF <;> rfl) | (apply p_lenString <;> rfl) | fail); (case hd => rfl)) | (apply v_condT; (case hc => rfl)) | (apply v_cond; (case hc => rfl); all_goals (intro h; (try simp only [reduceCtorEq, dec_true, dec_false, decide_eq_true_eq, decide_eq_false_iff_not, Bool.not_eq_true', Bool.not_eq_false', Option.isNone_iff_eq_none, beq_true, beq_false, beq_iff_eq, beq_eq_false_iff_ne, ne_eq, decide_eq_decide, Bool.not_eq_true, Bool.not_eq_false, Decidable.not_not] at h); first | skip)) | (apply v_guardB; (case h1 => rfl); (case h2 => rfl); all_goals (intro h; (try simp only [reduceCtorEq, dec_true, dec_false, decide_eq_true_eq, decide_eq_false_iff_not, Bool.not_eq_true', Bool.not_eq_false', Option.isNone_iff_eq_none, beq_true, beq_false, beq_iff_eq, beq_eq_false_iff_ne, ne_eq, decide_eq_decide, Bool.not_eq_true, Bool.not_eq_false, Decidable.not_not] at h); first | skip)) | (apply v_callJ (hs := refBad_s ?o1); (case ha => rfl); (case o1 => omega); (case hd => rfl)) | fail)
  all_goals try
    (refine v_ret [] (outsA1 rfl rfl) (by repeat (first | exact List.Sublist.refl _ | fail)) ?_
     refine ⟨?_, rfl, rfl⟩
     have : (decide (s.size ≤ 48) && decide (badR s s.size 0 < 0)) = false := by
       rw [Bool.and_eq_false_iff, decide_eq_false_iff_not, decide_eq_false_iff_not]; omega
     rw [valB, this]; rfl)
  have hv : valB s = decide (okBytes s) := by
    rw [valB, decide_eq_true (by omega), decide_eq_true (by omega)]; rfl
  refine v_loop [3, 0] (fun us G' μ' => G' = G ∧ μ' = [] ∧ ∃ (p : Nat), us = [Value.int .i64 (p : Int), .string s] ∧ p ≤ s.size ∧ ∀ j, j < p → 32 ≤ byt s j ∧ byt s j ≠ 127) (fun us => s.size - (headI us).toNat) rfl ⟨rfl, rfl, 0, rfl, by omega, by omega⟩ ?_
  rintro us G' μ' ⟨rfl, rfl, p, rfl, hp, hno⟩
  repeat' (first | apply v_seq | apply v_region | apply v_nil | apply v_skip | apply v_block | apply v_blk | (apply v_exit; (case hp => rfl)) | (apply v_take; (case hg => rfl)) | (apply v_pass; (case hg => rfl); (case hn => rfl); (case hd => rfl)) | (apply v_pure; (case hop => first | (apply p_move <;> rfl) | (apply p_eq <;> rfl) | (apply p_lt <;> rfl) | (apply p_assign <;> rfl) | (apply p_pickT <;> rfl) | (apply p_pickF <;> rfl) | (apply p_add; (case hx => rfl); (case hy => rfl); (case h => omega)) | (apply p_lenString <;> rfl) | (apply p_indexSn; (case hx => rfl); (case hi => rfl); all_goals omega) | fail); (case hd => rfl)) | (apply v_condT; (case hc => rfl)) | (apply v_cond; (case hc => rfl); all_goals (intro h; (try simp only [reduceCtorEq, dec_true, dec_false, decide_eq_true_eq, decide_eq_false_iff_not, Bool.not_eq_true', Bool.not_eq_false', Option.isNone_iff_eq_none, beq_true, beq_false, beq_iff_eq, beq_eq_false_iff_ne, ne_eq, decide_eq_decide, Bool.not_eq_true, Bool.not_eq_false, Decidable.not_not] at h); first | skip)) | (apply v_guardB; (case h1 => rfl); (case h2 => rfl); all_goals (intro h; (try simp only [reduceCtorEq, dec_true, dec_false, decide_eq_true_eq, decide_eq_false_iff_not, Bool.not_eq_true', Bool.not_eq_false', Option.isNone_iff_eq_none, beq_true, beq_false, beq_iff_eq, beq_eq_false_iff_ne, ne_eq, decide_eq_decide, Bool.not_eq_true, Bool.not_eq_false, Decidable.not_not] at h); first | skip)) | fail)
  all_goals try
    (refine v_ret [] (outsA1 rfl rfl) (by repeat (first | exact List.Sublist.refl _ | fail)) ?_
     refine ⟨?_, rfl, rfl⟩
     rw [hv, decide_eq_false]
     intro hm
     have := hm p (by omega)
     omega)
  all_goals try
    (refine v_again rfl ⟨rfl, rfl, p + 1, rfl, by omega, fun j hj => ?_⟩ (by simp [headI]; omega)
     by_cases e : j = p
     · subst e; omega
     · exact hno j (by omega))
  refine v_ret [] (outsA1 rfl rfl) (by repeat (first | exact List.Sublist.refl _ | fail)) ?_
  refine ⟨?_, rfl, rfl⟩
  rw [hv, decide_eq_true]
  exact fun j hj => hno j (by omega)
end Go.Proofs.YtnoiahlpmgbhfaaDoor
/-
  Texts (layer 5), the third part: what the program's readers answer: the same.
-/
set_option linter.unusedSimpArgs false
set_option linter.unusedVariables false
namespace Go.Proofs.YtnoiahlpmgbhfaaDoor
open Go.Vx Go.ChangeShapes Go.WideShapes Go.ChangeAt Go.RowKit
/-! ### Plain lists of runes, by the model's decoder -/
def allF (f : Nat → Bool) (s : ByteArray) : Nat → Nat → Bool
  | 0, _ => true
  | n + 1, p => if p < s.size then (if f (Utf8.decode s p).1 = true then allF f s n (p + (Utf8.decode s p).2) else false) else true
theorem allF_end {f : Nat → Bool} {s : ByteArray} {n p : Nat} (h : ¬ p < s.size) : allF f s n p = true := by
  cases n with
  | zero => rfl
  | succ n => unfold allF; rw [if_neg h]
theorem decode_w (s : ByteArray) (p : Nat) (h : p < s.size) : 1 ≤ (Utf8.decode s p).2 ∧ (Utf8.decode s p).2 ≤ 4 ∧ (Utf8.decode s p).1 < 1114112 := by
  rw [decode_of_sz s p h]
  have h4 := szR_le s p
  have h5 : (szR s p).2 ≤ 1114111 := by
    have := byt_lt s p
    unfold szR szFin
    repeat' split
    all_goals (try simp only); omega
  split
  · simp
  · simp only; omega
theorem allF_plain (s : ByteArray) : ∀ n p, s.size ≤ p + n → (decide (badR s n p < 0) && allF (fun r => decide (plainP (r : Int))) s n p) = keyR s n p
  | 0, p, h => by simp [badR, allF, keyR]
  | n + 1, p, h => by
    unfold badR allF keyR
    by_cases hp : p < s.size
    · simp only [if_pos hp]
      rw [decode_of_sz s p hp]
      by_cases hz : (szR s p).1 = 0
      · simp only [if_pos hz]
        simp; omega
      · simp only [if_neg hz]
        by_cases hf : plainP ((szR s p).2 : Int)
        · simp only [decide_eq_true hf, if_true, if_pos hf]
          exact allF_plain s n _ (by omega)
        · simp [hf]
    · simp [hp]
theorem szFin_spec {s : ByteArray} {i m low v : Nat} (h : (szFin s i m low v).1 ≠ 0) : ¬ s.size < i + (m + 1) ∧ contB s i m = true ∧ szFin s i m low v = (m + 1, acc s i v m) ∧ low ≤ acc s i v m := by
  by_cases h1 : s.size < i + (m + 1)
  · rw [szFin_short h1] at h; exact absurd rfl h
  cases h2 : contB s i m with
  | false => rw [szFin_cont h2] at h; exact absurd rfl h
  | true =>
    by_cases h3 : acc s i v m < low ∨ 1114111 < acc s i v m ∨ (55296 ≤ acc s i v m ∧ acc s i v m ≤ 57343)
    · rw [szFin_low h3] at h; exact absurd rfl h
    · exact ⟨h1, rfl, szFin_ok h1 h2 h3, by omega⟩
theorem cont_bytes {s : ByteArray} {i m : Nat} (h : contB s i m = true) : ∀ k, k < m → 128 ≤ byt s (i + (k + 1)) := by
  intro k hk
  have h1 : (contB s i k && (decide (128 ≤ byt s (i + (k + 1))) && decide (byt s (i + (k + 1)) ≤ 191))) = true := contB_mono h (k := k + 1) (by omega)
  simp only [Bool.and_eq_true, decide_eq_true_eq] at h1
  exact h1.2.1
theorem szFin_bytes {s : ByteArray} {i m low v : Nat} (hb : 128 ≤ byt s i) (hl : 128 ≤ low) (h : (szFin s i m low v).1 ≠ 0) : ((decide (32 ≤ (szFin s i m low v).2) && decide ((szFin s i m low v).2 ≠ 127)) = true ↔ ∀ j, i ≤ j → j < i + (szFin s i m low v).1 → 32 ≤ byt s j ∧ byt s j ≠ 127) ∧ i + (szFin s i m low v).1 ≤ s.size := by
  obtain ⟨h1, h2, h3, h4⟩ := szFin_spec h
  rw [h3]
  simp only [Bool.and_eq_true, decide_eq_true_eq]
  refine ⟨⟨fun _ j hj hj2 => ?_, fun _ => by omega⟩, by omega⟩
  by_cases e : j = i
  · subst e; omega
  · have := cont_bytes h2 (j - i - 1) (by omega)
    rw [show i + (j - i - 1 + 1) = j by omega] at this
    omega
theorem sz_both (s : ByteArray) (p : Nat) (hz : ¬ (szR s p).1 = 0) : ((decide (32 ≤ (szR s p).2) && decide ((szR s p).2 ≠ 127)) = true ↔ ∀ i, p ≤ i → i < p + (szR s p).1 → 32 ≤ byt s i ∧ byt s i ≠ 127) ∧ (p < s.size → p + (szR s p).1 ≤ s.size) := by
  unfold szR at hz ⊢
  by_cases c0 : byt s p < 128
  · simp only [if_pos c0] at hz ⊢
    simp only [Bool.and_eq_true, decide_eq_true_eq]
    refine ⟨⟨fun h i h1 h2 => ?_, fun h => h p (by omega) (by omega)⟩, by omega⟩
    obtain rfl : i = p := by omega
    exact h
  · simp only [if_neg c0] at hz ⊢
    by_cases c1 : 194 ≤ byt s p ∧ byt s p ≤ 223
    · simp only [if_pos c1] at hz ⊢
      have := szFin_bytes (by omega) (by omega) hz
      exact ⟨this.1, fun _ => this.2⟩
    · simp only [if_neg c1] at hz ⊢
      by_cases c2 : 224 ≤ byt s p ∧ byt s p ≤ 239
      · simp only [if_pos c2] at hz ⊢
        have := szFin_bytes (by omega) (by omega) hz
        exact ⟨this.1, fun _ => this.2⟩
      · simp only [if_neg c2] at hz ⊢
        by_cases c3 : 240 ≤ byt s p ∧ byt s p ≤ 244
        · simp only [if_pos c3] at hz ⊢
          have := szFin_bytes (by omega) (by omega) hz
          exact ⟨this.1, fun _ => this.2⟩
        · simp only [if_neg c3] at hz
          exact absurd trivial hz
theorem sz_bytes (s : ByteArray) (p : Nat) (hz : ¬ (szR s p).1 = 0) : ((decide (32 ≤ (szR s p).2) && decide ((szR s p).2 ≠ 127)) = true ↔ ∀ i, p ≤ i → i < p + (szR s p).1 → 32 ≤ byt s i ∧ byt s i ≠ 127) := (sz_both s p hz).1
theorem sz_end (s : ByteArray) (p : Nat) (hz : ¬ (szR s p).1 = 0) (h : p < s.size) : p + (szR s p).1 ≤ s.size := (sz_both s p hz).2 h
theorem allF_val (s : ByteArray) : ∀ n p, s.size ≤ p + n → badR s n p < 0 → (allF (fun r => decide (32 ≤ r) && decide (r ≠ 127)) s n p = true ↔ ∀ i, p ≤ i → i < s.size → 32 ≤ byt s i ∧ byt s i ≠ 127)
  | 0, p, h, _ => by
    simp only [allF, true_iff]
    intro i h1 h2; omega
  | n + 1, p, h, hb => by
    unfold badR at hb
    unfold allF
    by_cases hp : p < s.size
    · rw [if_pos hp] at hb ⊢
      rw [decode_of_sz s p hp]
      by_cases hz : (szR s p).1 = 0
      · rw [if_pos hz] at hb; omega
      · rw [if_neg hz] at hb
        simp only [if_neg hz]
        have ih := allF_val s n (p + (szR s p).1) (by omega) hb
        have key : ((decide (32 ≤ (szR s p).2) && decide ((szR s p).2 ≠ 127)) = true) ↔ ∀ i, p ≤ i → i < p + (szR s p).1 → 32 ≤ byt s i ∧ byt s i ≠ 127 := sz_bytes s p hz
        by_cases hf : (decide (32 ≤ (szR s p).2) && decide ((szR s p).2 ≠ 127)) = true
        · rw [if_pos hf, ih]
          have hk := key.1 hf
          constructor
          · intro hh i h1 h2
            by_cases hi : i < p + (szR s p).1
            · exact hk i h1 hi
            · exact hh i (by omega) h2
          · intro hh i h1 h2
            exact hh i (by omega) h2
        · rw [if_neg hf]
          constructor
          · intro hh; cases hh
          · intro hh
            have := key.2 fun i h1 h2 => hh i h1 (by have := sz_end s p hz hp; omega)
            rw [this] at hf; exact absurd rfl hf
    · rw [if_neg hp]
      simp only [true_iff]
      intro i h1 h2; omega
/-! ### The library's decoder -/
def laysDecode_ren : Go.Shelf.Ren := ⟨fun | 197 => 163 | 260 => 164 | n => n, fun | 0 => 0 | 3 => 3 | 4 => 4 | 5 => 5 | 9 => 9 | 21 => 21 | 46 => 151 | 105 => 160 | 119 => 162 | 138 => 164 | 139 => 165 | n => n, fun | 3 => 0 | 4 => 1 | n => n⟩
theorem laysDecode : Lays.n197 Tryd.prog laysDecode_ren where
  mixed := by kernel_rfl
  f197 := Tryd.func163.trans (congrArg some (by kernel_rfl))
  f260 := Tryd.func164.trans (congrArg some (by kernel_rfl))
  t0 := Tryd.underlying0
  a0 := Tryd.isAgg0
  z0 := Tryd.sizeOf0
  v0 := Tryd.zeroValue0
  t3 := Tryd.underlying3
  a3 := Tryd.isAgg3
  z3 := Tryd.sizeOf3
  v3 := Tryd.zeroValue3
  t4 := Tryd.underlying4
  a4 := Tryd.isAgg4
  z4 := Tryd.sizeOf4
  v4 := Tryd.zeroValue4
  t5 := Tryd.underlying5
  a5 := Tryd.isAgg5
  z5 := Tryd.sizeOf5
  v5 := Tryd.zeroValue5
  t9 := Tryd.underlying9
  a9 := Tryd.isAgg9
  z9 := Tryd.sizeOf9
  v9 := Tryd.zeroValue9
  t21 := Tryd.underlying21
  a21 := Tryd.isAgg21
  z21 := Tryd.sizeOf21
  v21 := Tryd.zeroValue21
  t46 := Tryd.underlying151
  a46 := Tryd.isAgg151
  z46 := Tryd.sizeOf151
  v46 := Tryd.zeroValue151
  t105 := Tryd.underlying160
  a105 := Tryd.isAgg160
  z105 := Tryd.sizeOf160
  v105 := Tryd.zeroValue160
  t119 := Tryd.underlying162
  a119 := Tryd.isAgg162
  z119 := Tryd.sizeOf162
  t138 := Tryd.underlying164
  a138 := Tryd.isAgg164
  z138 := Tryd.sizeOf164
  v138 := Tryd.zeroValue164
  t139 := Tryd.underlying165
  a139 := Tryd.isAgg165
  z139 := Tryd.sizeOf165
  v139 := Tryd.zeroValue165
  g3 := by kernel_rfl
  g4 := by kernel_rfl

/-- What is frozen shows the two tables of unicode/utf8. -/
def TabsG (G : GH) : Prop := ∀ w : World, (∀ b o, G b = some o → w.heap[b]? = some o) → Lib.Utf8Tabs (laysDecode_ren.g 3) (laysDecode_ren.g 4) w
theorem TabsG.le {G G' : GH} (h : TabsG G) (hle : GH.le G G') : TabsG G' := fun w hw => h w fun b o hb => hw b o (hle b o hb)
attribute [local semireducible] Con in
theorem Con.ofCalls {P : Program} {f : FuncId} {args : Array Value} {G : GH} {μ : OH} {Φ : Value → GH → OH → Prop} (h : ∀ w, Mem G μ w → Calls P f args w fun e w' => ∃ v, e = .returned v ∧ ∃ G' μ', Step G μ w G' μ' w' ∧ Φ v G' μ') : Con P f args G μ Φ := by
  intro w hw
  exact (h w hw).mono fun e w' hq => by
    obtain ⟨v, rfl, hv⟩ := hq
    exact ⟨v, rfl, hv⟩
/-- A callee that leaves all below as it was is a step of ours that gives nothing back. -/
theorem Step.ofBelow {G : GH} {w w' : World} (hw : Mem G [] w) (hb : Below w.heap.size w w') : Step G [] w G [] w' :=
  ⟨⟨fun b o h => by rw [hb.block b (lt_of_heap (hw.g b o h))]; exact hw.g b o h, fun _ _ h => (by cases h), List.nodup_nil, fun _ _ h => (by cases h)⟩, GH.le_refl _, hb.os, hb.tape, hb.output, hb.size, fun b h _ => hb.block b h, fun _ _ h => (by cases h), fun b o h => .inl ⟨o, h⟩⟩
theorem decode_s {G : GH} (hT : TabsG G) (s : ByteArray) : Con Tryd.prog 163 #[.string s] G [] (Just (.tuple [.int .i32 ((Lib.decodeGo s).1 : Int), .int .i64 ((Lib.decodeGo s).2 : Int)].toArray) G) := by
  refine Con.ofCalls fun w hw => ?_
  refine (Any.utf8_DecodeRuneInString laysDecode s w (hT w hw.g)).mono ?_
  rintro e w' ⟨rfl, hb⟩
  exact ⟨_, rfl, G, [], Step.ofBelow hw hb, rfl, rfl, rfl⟩
end Go.Proofs.YtnoiahlpmgbhfaaDoor
/-
  Texts (layer 5), the fourth part: the program's walks.
-/
set_option linter.unusedSimpArgs false
set_option linter.unusedVariables false
namespace Go.Proofs.YtnoiahlpmgbhfaaDoor
open Go.Vx Go.ChangeShapes Go.WideShapes Go.ChangeAt Go.RowKit
theorem byt_extract {s : ByteArray} {i k : Nat} (h : i + k < s.size) : byt (s.extract i s.size) k = byt s (i + k) := by
  have hs : (s.extract i s.size).size = s.size - i := by simp
  rw [byt_eq (by omega), byt_eq h]
  congr 1
  simp [ByteArray.getElem_extract]
theorem decode_extract {s : ByteArray} {i : Nat} (h : i < s.size) : Utf8.decode (s.extract i s.size) 0 = Utf8.decode s i := by
  have hs : (s.extract i s.size).size = s.size - i := by simp
  rw [decode_byt, decode_byt, hs]
  have e0 := byt_extract (s := s) (i := i) (k := 0) h
  rw [Nat.add_zero] at e0
  simp only [Nat.zero_add, e0]
  by_cases h1 : i + 1 < s.size
  · have e1 := byt_extract (s := s) (i := i) (k := 1) h1
    rw [e1]
    have c1 : (1 < s.size - i) ↔ (i + 1 < s.size) := by omega
    simp only [c1]
    by_cases h2 : i + 2 < s.size
    · have e2 := byt_extract (s := s) (i := i) (k := 2) h2
      rw [e2]
      have c2 : (2 < s.size - i) ↔ (i + 2 < s.size) := by omega
      simp only [c2]
      by_cases h3 : i + 3 < s.size
      · have e3 := byt_extract (s := s) (i := i) (k := 3) h3
        rw [e3]
        have c3 : (3 < s.size - i) ↔ (i + 3 < s.size) := by omega
        simp only [c3]
      · have c3 : ¬ (3 < s.size - i) := by omega
        simp only [h3, c3, false_and, and_false, if_false]
    · have c2 : ¬ (2 < s.size - i) := by omega
      simp only [h2, c2, false_and, and_false, if_false]
  · have c1 : ¬ (1 < s.size - i) := by omega
    simp only [h1, c1, false_and, and_false, if_false]
theorem decodeGo_extract {s : ByteArray} {i : Nat} (h : i < s.size) : Lib.decodeGo (s.extract i s.size) = Utf8.decode s i := by
  have hs : (s.extract i s.size).size = s.size - i := by simp
  rw [Lib.decodeGo, if_neg (by omega), decode_extract h]
theorem sz_one {s : ByteArray} {p : Nat} (h : (szR s p).1 = 1) : (szR s p).2 < 128 := by
  unfold szR at h ⊢
  by_cases c0 : byt s p < 128
  · rw [if_pos c0]; exact c0
  · rw [if_neg c0] at h
    exfalso
    have key : ∀ m low v, 0 < m → (szFin s p m low v).1 ≠ 1 := by
      intro m low v hm e
      obtain ⟨_, _, h3, _⟩ := szFin_spec (s := s) (i := p) (m := m) (low := low) (v := v) (by omega)
      rw [h3] at e
      simp only at e
      omega
    split at h
    · exact key _ _ _ (by omega) h
    · split at h
      · exact key _ _ _ (by omega) h
      · split at h
        · exact key _ _ _ (by omega) h
        · cases h
theorem bad_s {G : GH} (hT : TabsG G) {s : ByteArray} (hs : s.size ≤ 9223372036854775807) : Con Tryd.prog 161 #[.string s] G [] (Just (.int .i64 (badR s s.size 0)) G) := by
  apply Con.just
  refine v_enter Tryd.func161 rfl Tryd.ntmps161 rfl (fun B => ?_)
  repeat' (first | apply v_seq | apply v_region | apply v_nil | apply v_block | (apply v_pure; (case hop => first | (apply p_move <;> rfl) | (apply p_assign <;> rfl) | fail); (case hd => rfl)) | (apply v_rangeS; (case hx => rfl); (case hd => rfl); intro b) | fail)
  refine v_loopI (ι := Nat × Nat) [8, 0] (fun x us G' μ' => G' = G ∧ ∃ b, us = [Value.pointer (some ⟨b, 0, none⟩), .string s] ∧ μ' = [(b, .stringIter s x.1)] ∧ s.size ≤ x.1 + x.2 ∧ badR s s.size 0 = badR s x.2 x.1) (fun x => s.size - x.1) rfl (0, s.size) ⟨rfl, _, rfl, rfl, by simp, rfl⟩ ?_
  rintro ⟨p, n⟩ us G' μ' ⟨rfl, b, rfl, rfl, hn, he⟩
  simp only at hn he
  by_cases hp : p < s.size
  · obtain ⟨m, rfl⟩ := fuel hp hn
    have hw := decode_w s p hp
    have hd := decode_of_sz s p hp
    have hd2 := decodeGo_extract hp
    have ep : ((p : Nat) : Int).toNat = p := Int.toNat_natCast p
    have hcall := decode_s hT (s.extract p s.size)
    rw [hd2] at hcall
    repeat' (first | apply v_seq | apply v_region | apply v_nil | apply v_skip | apply v_block | apply v_blk | (apply v_exit; (case hp => rfl)) | (apply v_pure; (case hop => first | (apply p_move <;> rfl) | (apply p_eq <;> rfl) | (apply p_ne <;> rfl) | (apply p_assign <;> rfl) | (apply p_extract0 <;> rfl) | (apply p_extract1 <;> rfl) | (apply p_extract2 <;> rfl) | (apply p_sliceStrL; (case hx => rfl); (case hl => rfl); all_goals omega) | fail); (case hd => rfl)) | (apply v_condT; (case hc => rfl)) | (apply v_cond; (case hc => rfl); all_goals (intro h; (try simp only [reduceCtorEq, dec_true, dec_false, decide_eq_true_eq, decide_eq_false_iff_not, Bool.not_eq_true', Bool.not_eq_false', Option.isNone_iff_eq_none, beq_true, beq_false, beq_iff_eq, beq_eq_false_iff_ne, ne_eq, decide_eq_decide, Bool.not_eq_true, Bool.not_eq_false, Decidable.not_not] at h); first | skip)) | (apply v_nextS; (case hx => rfl); (case hb => (repeat (first | exact List.Mem.head _ | fail))); (case hp => assumption); (case hu => exact Upd.here _ _); (case hd => rfl)) | (apply v_callJ (hs := hcall); (case ha => rfl); (case hd => rfl)) | fail)
    · by_cases hz : (szR s p).1 = 0
      · rw [if_pos hz] at hd
        simp only [hd] at h
        omega
      · rw [if_neg hz] at hd
        refine v_againI (p + (szR s p).1, m) rfl ⟨rfl, b, rfl, by rw [hd], by simp only; rw [hd] at hw; simp only at hw; omega, ?_⟩ (by simp only; rw [hd] at hw; simp only at hw; omega)
        rw [he, badR, if_pos hp, if_neg hz]
    · refine v_ret [] (outsA1 rfl rfl) (by repeat (first | exact List.nil_sublist _ | fail)) ?_
      refine ⟨?_, rfl⟩
      have hz : (szR s p).1 = 0 := by
        apply Classical.byContradiction
        intro hz
        rw [if_neg hz] at hd
        rename_i h1
        rw [hd] at h h1
        simp only at h h1
        have := sz_one (s := s) (p := p) (by omega)
        omega
      rw [he, badR, if_pos hp, if_pos hz]
    · by_cases hz : (szR s p).1 = 0
      · rw [if_pos hz] at hd
        rw [hd] at h
        simp at h
      · rw [if_neg hz] at hd
        refine v_againI (p + (szR s p).1, m) rfl ⟨rfl, b, rfl, by rw [hd], by simp only; rw [hd] at hw; simp only at hw; omega, ?_⟩ (by simp only; rw [hd] at hw; simp only at hw; omega)
        rw [he, badR, if_pos hp, if_neg hz]
  · repeat' (first | apply v_seq | apply v_region | apply v_nil | (apply v_exit; (case hp => rfl)) | (apply v_pure; (case hop => first | (apply p_assign <;> rfl) | (apply p_extract0 <;> rfl) | fail); (case hd => rfl)) | (apply v_condF; (case hc => rfl)) | (apply v_read; (case hop => (apply r_nextEnd; (case hx => rfl); (case hb => (repeat (first | exact List.Mem.head _ | fail))); (case hp => assumption))); (case hd => rfl)) | fail)
    refine v_ret [] (outsA1 rfl rfl) (by repeat (first | exact List.nil_sublist _ | fail)) ?_
    refine ⟨?_, rfl⟩
    rw [he, badR_end hp]
theorem whole_s {G : GH} (hT : TabsG G) {s : ByteArray} (hs : s.size ≤ 9223372036854775807) : Con Tryd.prog 156 #[.string s] G [] (Just (.bool (decide (badR s s.size 0 < 0))) G) := by
  refine v_enter Tryd.func156 rfl Tryd.ntmps156 rfl (fun B => ?_)
  repeat' (first | apply v_seq | apply v_region | apply v_nil | (apply v_pure; (case hop => first | (apply p_move <;> rfl) | (apply p_lt <;> rfl) | (apply p_assign <;> rfl)); (case hd => rfl)) | (apply v_callJ (hs := bad_s ?o1 ?o2); (case ha => rfl); (case o1 => exact hT); (case o2 => exact hs); (case hd => rfl)) | fail)
  refine v_ret [] (outsA1 rfl rfl) (by repeat (first | exact List.Sublist.refl _ | fail)) ?_
  exact ⟨by rw [dec_eq], rfl, rfl⟩
theorem plainR_s (G : GH) (r : Int) : Con Tryd.prog 158 #[.int .i32 r] G [] (Just (.bool (decide (plainP r))) G) := by
  refine v_enter Tryd.func158 rfl Tryd.ntmps158 rfl (fun B => ?_)
  repeat' (first | apply v_seq | apply v_region | apply v_nil | apply v_skip | apply v_block | apply v_blk | (apply v_take; (case hg => rfl)) | (apply v_pass; (case hg => rfl); (case hn => rfl); (case hd => rfl)) | (apply v_pure; (case hop => first | (apply p_move <;> rfl) | (apply p_eq <;> rfl) | (apply p_ne <;> rfl) | (apply p_le <;> rfl) | (apply p_ge <;> rfl) | (apply p_assign <;> rfl) | (apply p_pickT <;> rfl) | (apply p_pickF <;> rfl) | fail); (case hd => rfl)) | (apply v_condF; (case hc => rfl)) | (apply v_cond; (case hc => rfl); all_goals (intro h; (try simp only [reduceCtorEq, dec_true, dec_false, decide_eq_true_eq, decide_eq_false_iff_not, Bool.not_eq_true', Bool.not_eq_false', Option.isNone_iff_eq_none, beq_true, beq_false, beq_iff_eq, beq_eq_false_iff_ne, ne_eq, decide_eq_decide, Bool.not_eq_true, Bool.not_eq_false, Decidable.not_not] at h); first | (exfalso; omega) | skip)) | (apply v_guardB; (case h1 => rfl); (case h2 => rfl); all_goals (intro h; (try simp only [reduceCtorEq, dec_true, dec_false, decide_eq_true_eq, decide_eq_false_iff_not, Bool.not_eq_true', Bool.not_eq_false', Option.isNone_iff_eq_none, beq_true, beq_false, beq_iff_eq, beq_eq_false_iff_ne, ne_eq, decide_eq_decide, Bool.not_eq_true, Bool.not_eq_false, Decidable.not_not] at h); first | (exfalso; omega) | skip)) | fail)
  all_goals
    (refine v_ret [] (outsA1 rfl rfl) (by repeat (first | exact List.Sublist.refl _ | fail)) ?_
     refine ⟨?_, rfl, rfl⟩
     first
       | rw [decide_eq_true (by unfold plainP; omega)]
       | rw [decide_eq_false (by unfold plainP; omega)]
       | (by_cases hr : r = 65533
          · rw [dec_pos hr, decide_eq_false (by unfold plainP; omega)]; rfl
          · rw [dec_neg hr, decide_eq_true (by unfold plainP; omega)]; rfl))
theorem valR_s (G : GH) (r : Nat) : Con Tryd.prog 159 #[.int .i32 (r : Int)] G [] (Just (.bool (decide (32 ≤ r) && decide (r ≠ 127))) G) := by
  refine v_enter Tryd.func159 rfl Tryd.ntmps159 rfl (fun B => ?_)
  repeat' (first | apply v_seq | apply v_region | apply v_nil | (apply v_take; (case hg => rfl)) | (apply v_pass; (case hg => rfl); (case hn => rfl); (case hd => rfl)) | (apply v_pure; (case hop => first | (apply p_move <;> rfl) | (apply p_ne <;> rfl) | (apply p_ge <;> rfl) | (apply p_assign <;> rfl) | (apply p_pickT <;> rfl) | (apply p_pickF <;> rfl) | fail); (case hd => rfl)) | (apply v_guardB; (case h1 => rfl); (case h2 => rfl); all_goals (intro h; (try simp only [reduceCtorEq, dec_true, dec_false, decide_eq_true_eq, decide_eq_false_iff_not, Bool.not_eq_true', Bool.not_eq_false', Option.isNone_iff_eq_none, beq_true, beq_false, beq_iff_eq, beq_eq_false_iff_ne, ne_eq, decide_eq_decide, Bool.not_eq_true, Bool.not_eq_false, Decidable.not_not] at h); first | skip)) | fail)
  all_goals
    (refine v_ret [] (outsA1 rfl rfl) (by repeat (first | exact List.Sublist.refl _ | fail)) ?_
     refine ⟨?_, rfl, rfl⟩
     by_cases h2 : r = 127
     · first
         | rw [dec_pos (show (r : Int) = 127 by omega), decide_eq_false (p := r ≠ 127) (by omega), Bool.and_false]; rfl
         | rw [decide_eq_false (p := r ≠ 127) (by omega), Bool.and_false]
     · first
         | rw [dec_neg (show ¬ (r : Int) = 127 by omega), decide_eq_true (p := r ≠ 127) (by omega), decide_eq_true (p := 32 ≤ r) (by omega)]; rfl
         | rw [decide_eq_false (p := 32 ≤ r) (by omega), Bool.false_and])
theorem all_s {G : GH} {s : ByteArray} (hs : s.size ≤ 9223372036854775807) (fid : FuncId) [Callable Tryd.prog fid] (f : Nat → Bool) (hf : ∀ (r : Nat), Con Tryd.prog fid #[.int .i32 (r : Int)] G [] (Just (.bool (f r)) G)) :
    Con Tryd.prog 157 #[.string s, .func (.func fid) #[] #[]] G [] (Just (.bool (allF f s s.size 0)) G) := by
  apply Con.just
  refine v_enter Tryd.func157 rfl Tryd.ntmps157 rfl (fun B => ?_)
  repeat' (first | apply v_seq | apply v_region | apply v_nil | apply v_block | (apply v_pure; (case hop => first | (apply p_move <;> rfl) | (apply p_assign <;> rfl) | fail); (case hd => rfl)) | (apply v_rangeS; (case hx => rfl); (case hd => rfl); intro b) | fail)
  refine v_loopI (ι := Nat × Nat) [8, 1] (fun x us G' μ' => G' = G ∧ ∃ b, us = [Value.pointer (some ⟨b, 0, none⟩), .func (.func fid) #[] #[]] ∧ μ' = [(b, .stringIter s x.1)] ∧ s.size ≤ x.1 + x.2 ∧ allF f s s.size 0 = allF f s x.2 x.1) (fun x => s.size - x.1) rfl (0, s.size) ⟨rfl, _, rfl, rfl, by simp, rfl⟩ ?_
  rintro ⟨p, n⟩ us G' μ' ⟨rfl, b, rfl, rfl, hn, he⟩
  simp only at hn he
  by_cases hp : p < s.size
  · obtain ⟨m, rfl⟩ := fuel hp hn
    have hw := decode_w s p hp
    repeat' (first | apply v_seq | apply v_region | apply v_nil | apply v_skip | apply v_block | apply v_blk | (apply v_pure; (case hop => first | (apply p_move <;> rfl) | (apply p_assign <;> rfl) | (apply p_not <;> rfl) | (apply p_extract0 <;> rfl) | (apply p_extract2 <;> rfl) | fail); (case hd => rfl)) | (apply v_condT; (case hc => rfl)) | (apply v_cond; (case hc => rfl); all_goals (intro h; (try simp only [reduceCtorEq, dec_true, dec_false, decide_eq_true_eq, decide_eq_false_iff_not, Bool.not_eq_true', Bool.not_eq_false', Option.isNone_iff_eq_none, beq_true, beq_false, beq_iff_eq, beq_eq_false_iff_ne, ne_eq, decide_eq_decide, Bool.not_eq_true, Bool.not_eq_false, Decidable.not_not] at h); first | skip)) | (apply v_nextS; (case hx => rfl); (case hb => (repeat (first | exact List.Mem.head _ | fail))); (case hp => assumption); (case hu => exact Upd.here _ _); (case hd => rfl)) | (apply v_callFJ0 (hs := hf (Utf8.decode s p).1); (case hx => rfl); (case ha => rfl); (case hd => rfl)) | fail)
    · refine v_ret [] (outsA1 rfl rfl) (by repeat (first | exact List.nil_sublist _ | fail)) ?_
      refine ⟨?_, rfl⟩
      rw [he, allF, if_pos hp, if_neg (by rw [h]; simp)]
    · refine v_againI (p + (Utf8.decode s p).2, m) rfl ⟨rfl, b, rfl, rfl, by simp only; omega, ?_⟩ (by simp only; omega)
      rw [he, allF, if_pos hp, if_pos (by assumption)]
  · repeat' (first | apply v_seq | apply v_region | apply v_nil | (apply v_exit; (case hp => rfl)) | (apply v_pure; (case hop => first | (apply p_assign <;> rfl) | (apply p_extract0 <;> rfl) | fail); (case hd => rfl)) | (apply v_condF; (case hc => rfl)) | (apply v_read; (case hop => (apply r_nextEnd; (case hx => rfl); (case hb => (repeat (first | exact List.Mem.head _ | fail))); (case hp => assumption))); (case hd => rfl)) | fail)
    refine v_ret [] (outsA1 rfl rfl) (by repeat (first | exact List.nil_sublist _ | fail)) ?_
    refine ⟨?_, rfl⟩
    rw [he, allF_end hp]
theorem key_s {G : GH} (hT : TabsG G) {s : ByteArray} (hs : s.size ≤ 9223372036854775807) : Con Tryd.prog 133 #[.string s] G [] (Just (.bool (keyB s)) G) := by
  have hall := all_s (G := G) hs 158 (fun r => decide (plainP (r : Int))) (fun r => plainR_s G r)
  have hk := allF_plain s s.size 0 (by omega)
  refine v_enter Tryd.func133 rfl Tryd.ntmps133 rfl (fun B => ?_)
  repeat' (first | apply v_seq | apply v_region | apply v_nil | (apply v_take; (case hg => rfl)) | (apply v_pass; (case hg => rfl); (case hn => rfl); (case hd => rfl)) | (apply v_pure; (case hop => first | (apply p_move <;> rfl) | (apply p_le <;> rfl) | (apply p_assign <;> rfl) | (apply p_pickT <;> rfl) | (apply p_pickF <;> rfl) | (apply p_lenString <;> rfl) | (apply p_neS <;> rfl) | fail); (case hd => rfl)) | (apply v_guardB; (case h1 => rfl); (case h2 => rfl); all_goals (intro h; (try simp only [reduceCtorEq, dec_true, dec_false, decide_eq_true_eq, decide_eq_false_iff_not, Bool.not_eq_true', Bool.not_eq_false', Option.isNone_iff_eq_none, beq_true, beq_false, beq_iff_eq, beq_eq_false_iff_ne, ne_eq, decide_eq_decide, Bool.not_eq_true, Bool.not_eq_false, Decidable.not_not] at h); first | skip)) | (apply v_callJ (hs := whole_s hT hs); (case ha => rfl); (case hd => rfl)) | (apply v_callJ (hs := hall); (case ha => rfl); (case hd => rfl)) | fail)
  · refine v_ret [] (outsA1 rfl rfl) (by repeat (first | exact List.Sublist.refl _ | fail)) ?_
    refine ⟨?_, rfl, rfl⟩
    have h0 : 1 ≤ s.size := by
      apply Classical.byContradiction
      intro h0
      have : s = ByteArray.empty := by
        apply ByteArray.ext
        apply Array.eq_empty_of_size_eq_zero
        show s.size = 0
        omega
      exact absurd this (by assumption)
    rw [keyB, ← hk, decide_eq_true h0, decide_eq_true (by omega), decide_eq_true (by assumption)]; rfl
  · refine v_ret [] (outsA1 rfl rfl) (by repeat (first | exact List.Sublist.refl _ | fail)) ?_
    refine ⟨?_, rfl, rfl⟩
    rw [keyB, ← hk, decide_eq_false (p := badR s s.size 0 < 0) (by assumption), Bool.false_and, Bool.and_false]
  · refine v_ret [] (outsA1 rfl rfl) (by repeat (first | exact List.Sublist.refl _ | fail)) ?_
    refine ⟨?_, rfl, rfl⟩
    rw [keyB, decide_eq_false (p := s.size ≤ 24) (by omega), Bool.and_false, Bool.false_and]
  · refine v_ret [] (outsA1 rfl rfl) (by repeat (first | exact List.Sublist.refl _ | fail)) ?_
    refine ⟨?_, rfl, rfl⟩
    have h0 : s.size = 0 := by rw [h]; rfl
    rw [keyB, decide_eq_false (p := 1 ≤ s.size) (by omega), Bool.false_and, Bool.false_and]
theorem val_s {G : GH} (hT : TabsG G) {s : ByteArray} (hs : s.size ≤ 9223372036854775807) : Con Tryd.prog 135 #[.string s] G [] (Just (.bool (valB s)) G) := by
  have hall := all_s (G := G) hs 159 (fun r => decide (32 ≤ r) && decide (r ≠ 127)) (fun r => valR_s G r)
  have hv := allF_val s s.size 0 (by omega)
  refine v_enter Tryd.func135 rfl Tryd.ntmps135 rfl (fun B => ?_)
  repeat' (first | apply v_seq | apply v_region | apply v_nil | (apply v_take; (case hg => rfl)) | (apply v_pass; (case hg => rfl); (case hn => rfl); (case hd => rfl)) | (apply v_pure; (case hop => first | (apply p_move <;> rfl) | (apply p_le <;> rfl) | (apply p_assign <;> rfl) | (apply p_pickT <;> rfl) | (apply p_pickF <;> rfl) | (apply p_lenString <;> rfl) | fail); (case hd => rfl)) | (apply v_guardB; (case h1 => rfl); (case h2 => rfl); all_goals (intro h; (try simp only [reduceCtorEq, dec_true, dec_false, decide_eq_true_eq, decide_eq_false_iff_not, Bool.not_eq_true', Bool.not_eq_false', Option.isNone_iff_eq_none, beq_true, beq_false, beq_iff_eq, beq_eq_false_iff_ne, ne_eq, decide_eq_decide, Bool.not_eq_true, Bool.not_eq_false, Decidable.not_not] at h); first | skip)) | (apply v_callJ (hs := whole_s hT hs); (case ha => rfl); (case hd => rfl)) | (apply v_callJ (hs := hall); (case ha => rfl); (case hd => rfl)) | fail)
  · refine v_ret [] (outsA1 rfl rfl) (by repeat (first | exact List.Sublist.refl _ | fail)) ?_
    refine ⟨?_, rfl, rfl⟩
    have hv' := hv (by assumption)
    have e : allF (fun r => decide (32 ≤ r) && decide (r ≠ 127)) s s.size 0 = decide (okBytes s) := by
      rw [Bool.eq_iff_iff, hv', decide_eq_true_iff]
      exact ⟨fun h i hi => h i (by omega) hi, fun h i _ hi => h i hi⟩
    rw [valB, e, decide_eq_true (p := s.size ≤ 48) (by omega), decide_eq_true (p := badR s s.size 0 < 0) (by assumption)]; rfl
  · refine v_ret [] (outsA1 rfl rfl) (by repeat (first | exact List.Sublist.refl _ | fail)) ?_
    refine ⟨?_, rfl, rfl⟩
    rw [valB, decide_eq_false (p := badR s s.size 0 < 0) (by assumption), Bool.and_false, Bool.false_and]
  · refine v_ret [] (outsA1 rfl rfl) (by repeat (first | exact List.Sublist.refl _ | fail)) ?_
    refine ⟨?_, rfl, rfl⟩
    rw [valB, decide_eq_false (p := s.size ≤ 48) (by omega), Bool.false_and, Bool.false_and]
end Go.Proofs.YtnoiahlpmgbhfaaDoor
/-
  cmd (layer 8), the first part: the fields of a command.
-/
set_option linter.unusedSimpArgs false
set_option linter.unusedVariables false
namespace Go.Proofs.YtnoiahlpmgbhfaaDoor
open Go.Vx Go.ChangeShapes Go.WideShapes Go.ChangeAt Go.RowKit
/-- A command. -/
structure Cm where
  kind : Int
  client : Int
  seq : Int
  key : ByteArray
  val : ByteArray
  old : ByteArray
  node : Int
def Cm.cells (c : Cm) : List Value := [.int .i64 c.kind, .int .i64 c.client, .int .i64 c.seq, .string c.key, .string c.val, .string c.old, .int .i64 c.node]
def Cm.ok (c : Cm) : Prop := (Lit.int .i64 c.kind).wf = true ∧ (Lit.int .i64 c.client).wf = true ∧ (Lit.int .i64 c.seq).wf = true ∧ c.key.size ≤ maxLen ∧ c.val.size ≤ maxLen ∧ c.old.size ≤ maxLen ∧ (Lit.int .i64 c.node).wf = true
def cmdFields (kind : Int) : Int × Bool :=
  if kind = 1 ∨ kind = 6 then (0, true) else if kind = 2 then (11, true) else if kind = 3 ∨ kind = 4 then (3, true) else if kind = 5 then (15, true) else if kind = 7 ∨ kind = 8 then (16, true) else (0, false)
theorem fields_s (G : GH) (kind : Int) : Con Tryd.prog 139 #[.int .i64 kind] G [] (Just (.tuple [.int .i64 (cmdFields kind).1, .bool (cmdFields kind).2].toArray) G) := by
  refine v_enter Tryd.func139 rfl Tryd.ntmps139 rfl (fun B => ?_)
  repeat' (first | apply v_seq | apply v_region | apply v_nil | apply v_skip | apply v_block | apply v_blk | (apply v_pure; (case hop => first | (apply p_move <;> rfl) | (apply p_eq <;> rfl) | (apply p_assign <;> rfl) | fail); (case hd => rfl)) | (apply v_cond; (case hc => rfl); all_goals (intro h; (try simp only [reduceCtorEq, dec_true, dec_false, decide_eq_true_eq, decide_eq_false_iff_not, Bool.not_eq_true', Bool.not_eq_false', Option.isNone_iff_eq_none, beq_true, beq_false, beq_iff_eq, beq_eq_false_iff_ne, ne_eq, decide_eq_decide, Bool.not_eq_true, Bool.not_eq_false, Decidable.not_not] at h); first | (exfalso; omega) | skip)) | fail)
  all_goals
    (refine v_ret [] (outsA2 rfl rfl rfl) (by repeat (first | exact List.Sublist.refl _ | fail)) ?_
     refine ⟨?_, rfl, rfl⟩
     unfold cmdFields
     (repeat' split) <;> first | rfl | (exfalso; omega))
/-! ### The parts -/
def partFn (f : FuncId) : Value := .func (.func f) #[] #[]
def partL : Nat → List Value
  | 0 => [.int .i64 1, .int .i64 8, .nilFunc, partFn 131]
  | 1 => [.int .i64 1, .int .i64 4294967296, .nilFunc, partFn 132]
  | 2 => [.int .i64 2, .int .i64 0, partFn 133, partFn 134]
  | 3 => [.int .i64 4, .int .i64 0, partFn 135, partFn 136]
  | 4 => [.int .i64 8, .int .i64 0, partFn 135, partFn 137]
  | _ => [.int .i64 16, .int .i64 9, .nilFunc, partFn 138]
def partsL : List Value := partL 0 ++ (partL 1 ++ (partL 2 ++ (partL 3 ++ (partL 4 ++ partL 5))))
theorem parts_s (G : GH) : Con Tryd.prog 90 #[] G [] (fun r G' μ' => G' = G ∧ ∃ b, r = .slice (some ⟨b, 0, none⟩) 6 6 ∧ μ' = [(b, .cells partsL.toArray 113 (0, 0))]) := by
  refine v_enter Tryd.func90 rfl Tryd.ntmps90 rfl (fun B => ?_)
  repeat' (first | apply v_seq | apply v_region | apply v_nil | (apply v_pure; (case hop => first | (apply p_assign <;> rfl) | (apply p_build; (case hz => rfl); (case hv => (simp only [List.map_cons, List.map_nil]; repeat (first | with_reducible exact evs_nil | (apply evs_cons; (case h1 => rfl))))); (case hb => (apply bldL; repeat (first | exact bld_nil | (apply bld_cons; (case hpf => rfl); (case hc => rfl); (case hs => rfl); (case hl => rfl); (case ho => (first | ((repeat (first | with_reducible exact ov_nil | apply ov_cons | fail)); done) | fail)))))))); (case hd => rfl)) | (apply v_buildSlice; (case hz => rfl); (case hi => rfl); (case hv => (simp only [List.map_cons, List.map_nil]; repeat (first | with_reducible exact evs_nil | (apply evs_cons; (case h1 => rfl))))); (case hp => (first | (apply pk_cons; (case hc => rfl); (case hs => rfl); (case h => (first | (apply pk_cons; (case hc => rfl); (case hs => rfl); (case h => (first | (apply pk_cons; (case hc => rfl); (case hs => rfl); (case h => (first | (apply pk_cons; (case hc => rfl); (case hs => rfl); (case h => (first | (apply pk_cons; (case hc => rfl); (case hs => rfl); (case h => (first | (apply pk_cons; (case hc => rfl); (case hs => rfl); (case h => (first | with_reducible exact pk_nil | fail)); (case he => (first | ((repeat (first | with_reducible exact ap_nil | apply ap_cons)); done) | fail))) | fail)); (case he => (first | ((repeat (first | with_reducible exact ap_nil | apply ap_cons)); done) | fail))) | fail)); (case he => (first | ((repeat (first | with_reducible exact ap_nil | apply ap_cons)); done) | fail))) | fail)); (case he => (first | ((repeat (first | with_reducible exact ap_nil | apply ap_cons)); done) | fail))) | fail)); (case he => (first | ((repeat (first | with_reducible exact ap_nil | apply ap_cons)); done) | fail))) | fail)); (case he => (first | ((repeat (first | with_reducible exact ap_nil | apply ap_cons)); done) | fail))) | fail)); (case hb => rfl); (case hd => rfl); intro b) | fail)
  refine v_ret [(b, _)] (outsA1 rfl rfl) (by repeat (first | exact List.Sublist.refl _ | fail)) ?_
  exact ⟨rfl, _, rfl, rfl⟩
theorem at1_s (G : GH) (b : Nat) : Con Tryd.prog 131 #[.pointer (some ⟨b, 0, none⟩)] G [] (Just (.iface 133 (.pointer (some ⟨b, 0 + 1, none⟩))) G) := by
  refine v_enter Tryd.func131 rfl Tryd.ntmps131 rfl (fun B => ?_)
  repeat' (first | apply v_seq | apply v_region | apply v_nil | (apply v_pure; (case hop => first | (apply p_move <;> rfl) | (apply p_assign <;> rfl) | (apply p_fieldAddrB <;> rfl) | (apply p_nilCheck <;> rfl) | (apply p_iface <;> rfl)); (case hd => rfl)) | fail)
  refine v_ret [] (outsA1 rfl rfl) (by repeat (first | exact List.Sublist.refl _ | fail)) ?_
  exact ⟨rfl, rfl, rfl⟩
theorem at2_s (G : GH) (b : Nat) : Con Tryd.prog 132 #[.pointer (some ⟨b, 0, none⟩)] G [] (Just (.iface 133 (.pointer (some ⟨b, 0 + 2, none⟩))) G) := by
  refine v_enter Tryd.func132 rfl Tryd.ntmps132 rfl (fun B => ?_)
  repeat' (first | apply v_seq | apply v_region | apply v_nil | (apply v_pure; (case hop => first | (apply p_move <;> rfl) | (apply p_assign <;> rfl) | (apply p_fieldAddrB <;> rfl) | (apply p_nilCheck <;> rfl) | (apply p_iface <;> rfl)); (case hd => rfl)) | fail)
  refine v_ret [] (outsA1 rfl rfl) (by repeat (first | exact List.Sublist.refl _ | fail)) ?_
  exact ⟨rfl, rfl, rfl⟩
theorem at3_s (G : GH) (b : Nat) : Con Tryd.prog 134 #[.pointer (some ⟨b, 0, none⟩)] G [] (Just (.iface 134 (.pointer (some ⟨b, 0 + 3, none⟩))) G) := by
  refine v_enter Tryd.func134 rfl Tryd.ntmps134 rfl (fun B => ?_)
  repeat' (first | apply v_seq | apply v_region | apply v_nil | (apply v_pure; (case hop => first | (apply p_move <;> rfl) | (apply p_assign <;> rfl) | (apply p_fieldAddrB <;> rfl) | (apply p_nilCheck <;> rfl) | (apply p_iface <;> rfl)); (case hd => rfl)) | fail)
  refine v_ret [] (outsA1 rfl rfl) (by repeat (first | exact List.Sublist.refl _ | fail)) ?_
  exact ⟨rfl, rfl, rfl⟩
theorem at4_s (G : GH) (b : Nat) : Con Tryd.prog 136 #[.pointer (some ⟨b, 0, none⟩)] G [] (Just (.iface 134 (.pointer (some ⟨b, 0 + 5, none⟩))) G) := by
  refine v_enter Tryd.func136 rfl Tryd.ntmps136 rfl (fun B => ?_)
  repeat' (first | apply v_seq | apply v_region | apply v_nil | (apply v_pure; (case hop => first | (apply p_move <;> rfl) | (apply p_assign <;> rfl) | (apply p_fieldAddrB <;> rfl) | (apply p_nilCheck <;> rfl) | (apply p_iface <;> rfl)); (case hd => rfl)) | fail)
  refine v_ret [] (outsA1 rfl rfl) (by repeat (first | exact List.Sublist.refl _ | fail)) ?_
  exact ⟨rfl, rfl, rfl⟩
theorem at5_s (G : GH) (b : Nat) : Con Tryd.prog 137 #[.pointer (some ⟨b, 0, none⟩)] G [] (Just (.iface 134 (.pointer (some ⟨b, 0 + 4, none⟩))) G) := by
  refine v_enter Tryd.func137 rfl Tryd.ntmps137 rfl (fun B => ?_)
  repeat' (first | apply v_seq | apply v_region | apply v_nil | (apply v_pure; (case hop => first | (apply p_move <;> rfl) | (apply p_assign <;> rfl) | (apply p_fieldAddrB <;> rfl) | (apply p_nilCheck <;> rfl) | (apply p_iface <;> rfl)); (case hd => rfl)) | fail)
  refine v_ret [] (outsA1 rfl rfl) (by repeat (first | exact List.Sublist.refl _ | fail)) ?_
  exact ⟨rfl, rfl, rfl⟩
theorem at6_s (G : GH) (b : Nat) : Con Tryd.prog 138 #[.pointer (some ⟨b, 0, none⟩)] G [] (Just (.iface 133 (.pointer (some ⟨b, 0 + 6, none⟩))) G) := by
  refine v_enter Tryd.func138 rfl Tryd.ntmps138 rfl (fun B => ?_)
  repeat' (first | apply v_seq | apply v_region | apply v_nil | (apply v_pure; (case hop => first | (apply p_move <;> rfl) | (apply p_assign <;> rfl) | (apply p_fieldAddrB <;> rfl) | (apply p_nilCheck <;> rfl) | (apply p_iface <;> rfl)); (case hd => rfl)) | fail)
  refine v_ret [] (outsA1 rfl rfl) (by repeat (first | exact List.Sublist.refl _ | fail)) ?_
  exact ⟨rfl, rfl, rfl⟩
/-! ### What is right of a part -/
def hasOf : Nat → Int
  | 0 => 1
  | 1 => 1
  | 2 => 2
  | 3 => 4
  | 4 => 8
  | _ => 16
def mostOf : Nat → Int
  | 0 => 8
  | 1 => 4294967296
  | _ => 9
def Cm.num (c : Cm) : Nat → Int
  | 0 => c.client
  | 1 => c.seq
  | _ => c.node
def Cm.txt (c : Cm) : Nat → ByteArray
  | 2 => c.key
  | 3 => c.old
  | _ => c.val
noncomputable def isTxt : Nat → ByteArray → Bool
  | 2 => keyB
  | _ => valB
def isNum (j : Nat) : Bool := j == 0 || j == 1 || j == 5
def numR (c : Cm) (f : Int) (j : Nat) : Bool := if isNum j then (if band f (hasOf j) = 0 then true else decide (1 ≤ c.num j ∧ c.num j ≤ mostOf j)) else true
def numF (c : Cm) (f : Int) (j : Nat) : Bool := if isNum j then (if band f (hasOf j) = 0 then decide (c.num j = 0) else true) else true
noncomputable def txtT (c : Cm) (f : Int) (j : Nat) : Bool := if isNum j then true else (if band f (hasOf j) = 0 then true else isTxt j (c.txt j))
def txtF (c : Cm) (f : Int) (j : Nat) : Bool := if isNum j then true else (if band f (hasOf j) = 0 then decide ((c.txt j).size = 0) else true)
theorem dec_nil {s : ByteArray} : dec (s = { data := #[] }) = decide (s.size = 0) := by
  rw [dec_eq]
  rw [decide_eq_decide]
  constructor
  · intro h; rw [h]; rfl
  · intro h
    apply ByteArray.ext
    exact Array.eq_empty_of_size_eq_zero h
theorem number_s (G : GH) (c : Cm) (f : Int) (cb j : Nat) (hj : j < 6) : Con Tryd.prog 141 #[.agg (partL j).toArray, .pointer (some ⟨cb, 0, none⟩), .int .i64 f] G [(cb, .cells c.cells.toArray 27 (0, 0))]
    (Keeps (.tuple [.bool (numR c f j), .bool (numF c f j)].toArray) G [(cb, .cells c.cells.toArray 27 (0, 0))]) := by
  apply Con.keeps
  unfold Cm.cells
  refine v_enter Tryd.func141 rfl Tryd.ntmps141 rfl (fun B => ?_)
  obtain rfl | rfl | rfl | rfl | rfl | rfl : j = 0 ∨ j = 1 ∨ j = 2 ∨ j = 3 ∨ j = 4 ∨ j = 5 := by omega
  all_goals
    repeat' (first | apply v_seq | apply v_region | apply v_nil | apply v_skip | (apply v_pure; (case hop => first | (apply p_move <;> rfl) | (apply p_eq <;> rfl) | (apply p_assign <;> rfl) | (apply p_not <;> rfl) | (apply p_fieldAddrB <;> rfl) | (apply p_extract0 <;> rfl) | (apply p_extract1 <;> rfl) | (apply p_assertOk <;> rfl) | (apply p_assertNo <;> rfl) | (apply p_and64 <;> rfl) | fail); (case hd => rfl)) | (apply v_condT; (case hc => rfl)) | (apply v_condF; (case hc => rfl)) | (apply v_cond; (case hc => rfl); all_goals (intro h; (try simp only [reduceCtorEq, dec_true, dec_false, decide_eq_true_eq, decide_eq_false_iff_not, Bool.not_eq_true', Bool.not_eq_false', Option.isNone_iff_eq_none, beq_true, beq_false, beq_iff_eq, beq_eq_false_iff_ne, ne_eq, decide_eq_decide, Bool.not_eq_true, Bool.not_eq_false, Decidable.not_not] at h); first | skip)) | (apply v_callFJ0 (hs := at1_s _ cb); (case hx => rfl); (case ha => rfl); (case hd => rfl)) | (apply v_callFJ0 (hs := at2_s _ cb); (case hx => rfl); (case ha => rfl); (case hd => rfl)) | (apply v_callFJ0 (hs := at3_s _ cb); (case hx => rfl); (case ha => rfl); (case hd => rfl)) | (apply v_callFJ0 (hs := at4_s _ cb); (case hx => rfl); (case ha => rfl); (case hd => rfl)) | (apply v_callFJ0 (hs := at5_s _ cb); (case hx => rfl); (case ha => rfl); (case hd => rfl)) | (apply v_callFJ0 (hs := at6_s _ cb); (case hx => rfl); (case ha => rfl); (case hd => rfl)) | (apply v_read; (case hop => first | (apply r_load1; rfl; (apply Cell.own; (case h => (repeat (first | exact List.Mem.head _ | fail))); rfl)) | fail); (case hd => rfl)) | (apply v_box; (case hx => rfl); (case hz => rfl); (case hd => rfl); intro b) | fail)
  all_goals try
    (refine v_ret [(cb, _)] (outsA2 rfl rfl rfl) (by repeat (first | exact List.Sublist.refl _ | apply List.Sublist.cons | fail)) ?_
     exact ⟨rfl, rfl⟩)
  all_goals try
    (refine d_start _ (by kernel_rfl) (by kernel_rfl) (fun _ he => he) ?_
     all_goals (first | (apply d_take 0; (case hi => rfl); (case hop => first | (apply PureOp.read; apply p_move <;> rfl)); (case hf => kernel_rfl); (case hr => kernel_rfl); (case hd => rfl)) | fail)
     all_goals (first | (apply d_take 1; (case hi => rfl); (case hop => first | (apply PureOp.read; apply p_nilCheck <;> rfl)); (case hf => kernel_rfl); (case hr => kernel_rfl); (case hd => rfl)) | fail)
     all_goals (first | (apply d_take 2; (case hi => rfl); (case hop => first   | (apply r_loadNo; (case hx => rfl); (case h => (repeat (fail))); (case hd => (repeat (fail))); (case hn => rfl)) | (apply r_load1; rfl; (apply Cell.own; (case h => (repeat (first | exact List.Mem.head _ | apply List.Mem.tail | fail))); rfl)) | (apply r_loadN; rfl; (apply CellsAt.own; (case h => (repeat (fail)))); rfl)); (case hf => kernel_rfl); (case hr => kernel_rfl); (case hd => rfl)) | fail)
     all_goals (first | (apply d_take 3; (case hi => rfl); (case hop => first | (apply PureOp.read; apply p_eq <;> rfl) | fail); (case hf => kernel_rfl); (case hr => kernel_rfl); (case hd => rfl)) | fail)
     all_goals (first | (apply d_take 4; (case hi => rfl); (case hop => first | (apply PureOp.read; apply p_assign <;> rfl)); (case hf => kernel_rfl); (case hr => kernel_rfl); (case hd => rfl)) | fail)
     all_goals (first | (apply d_take 5; (case hi => rfl); (case hop => first | (apply PureOp.read; apply p_assign <;> rfl)); (case hf => kernel_rfl); (case hr => kernel_rfl); (case hd => rfl)) | fail)
     all_goals (apply d_done; (case hr => kernel_rfl))
     refine v_ret [(cb, _)] (outsA2 rfl rfl rfl) (by repeat (first | exact List.Sublist.refl _ | apply List.Sublist.cons | fail)) ?_
     refine ⟨?_, rfl⟩
     simp [numR, numF, isNum, hasOf, Cm.num, dec_eq, *])
  all_goals
    (refine d_start _ (by kernel_rfl) (by kernel_rfl) (fun _ he => he) ?_
     all_goals (first | (apply d_take 0; (case hi => rfl); (case hop => first | (apply PureOp.read; apply p_move <;> rfl)); (case hf => kernel_rfl); (case hr => kernel_rfl); (case hd => rfl)) | fail)
     all_goals (first | (apply d_take 1; (case hi => rfl); (case hop => first | (apply PureOp.read; apply p_nilCheck <;> rfl)); (case hf => kernel_rfl); (case hr => kernel_rfl); (case hd => rfl)) | fail)
     all_goals (first | (apply d_take 2; (case hi => rfl); (case hop => first   | (apply r_loadNo; (case hx => rfl); (case h => (repeat (fail))); (case hd => (repeat (fail))); (case hn => rfl)) | (apply r_load1; rfl; (apply Cell.own; (case h => (repeat (first | exact List.Mem.head _ | apply List.Mem.tail | fail))); rfl)) | (apply r_loadN; rfl; (apply CellsAt.own; (case h => (repeat (fail)))); rfl)); (case hf => kernel_rfl); (case hr => kernel_rfl); (case hd => rfl)) | fail)
     all_goals (first | (apply d_take 3; (case hi => rfl); (case hop => first | (apply PureOp.read; apply p_ge <;> rfl)); (case hf => kernel_rfl); (case hr => kernel_rfl); (case hd => rfl)) | fail)
     all_goals (first | (apply d_take 4; (case hi => rfl); (case hop => first | (apply PureOp.read; apply p_move <;> rfl)); (case hf => kernel_rfl); (case hr => kernel_rfl); (case hd => rfl)) | fail)
     all_goals (try (apply d_guardB 5; (case hi => rfl); (case hgd => rfl); (case h1 => rfl); (case h2 => first | rfl); all_goals (intro h; (try simp only [reduceCtorEq, dec_true, dec_false, decide_eq_true_eq, decide_eq_false_iff_not, Bool.not_eq_true', Bool.not_eq_false', Option.isNone_iff_eq_none, beq_true, beq_false, beq_iff_eq, beq_eq_false_iff_ne, ne_eq, decide_eq_decide, Bool.not_eq_true, Bool.not_eq_false, Decidable.not_not] at h); first | skip)))
     all_goals (first | (apply d_pass 5; (case hi => rfl); (case hg => rfl); (case hn => rfl); (case hf => kernel_rfl); (case hr => kernel_rfl); (case hd => rfl)) | (apply d_takeG 5; (case hi => rfl); (case hg => rfl); (case hop => first | (apply PureOp.read; apply p_move <;> rfl)); (case hf => kernel_rfl); (case hr => kernel_rfl); (case hd => rfl)) | fail)
     all_goals (try (apply d_guardB 6; (case hi => rfl); (case hgd => rfl); (case h1 => rfl); (case h2 => first | rfl); all_goals (intro h; (try simp only [reduceCtorEq, dec_true, dec_false, decide_eq_true_eq, decide_eq_false_iff_not, Bool.not_eq_true', Bool.not_eq_false', Option.isNone_iff_eq_none, beq_true, beq_false, beq_iff_eq, beq_eq_false_iff_ne, ne_eq, decide_eq_decide, Bool.not_eq_true, Bool.not_eq_false, Decidable.not_not] at h); first | done | skip)))
     all_goals (first | (apply d_pass 6; (case hi => rfl); (case hg => rfl); (case hn => rfl); (case hf => kernel_rfl); (case hr => kernel_rfl); (case hd => rfl)) | (apply d_takeG 6; (case hi => rfl); (case hg => rfl); (case hop => first | (apply PureOp.read; apply p_nilCheck <;> rfl)); (case hf => kernel_rfl); (case hr => kernel_rfl); (case hd => rfl)) | fail)
     all_goals (try (apply d_guardB 7; (case hi => rfl); (case hgd => rfl); (case h1 => rfl); (case h2 => first | rfl); all_goals (intro h; (try simp only [reduceCtorEq, dec_true, dec_false, decide_eq_true_eq, decide_eq_false_iff_not, Bool.not_eq_true', Bool.not_eq_false', Option.isNone_iff_eq_none, beq_true, beq_false, beq_iff_eq, beq_eq_false_iff_ne, ne_eq, decide_eq_decide, Bool.not_eq_true, Bool.not_eq_false, Decidable.not_not] at h); first | done | skip)))
     all_goals (first | (apply d_pass 7; (case hi => rfl); (case hg => rfl); (case hn => rfl); (case hf => kernel_rfl); (case hr => kernel_rfl); (case hd => rfl)) | (apply d_takeG 7; (case hi => rfl); (case hg => rfl); (case hop => first   | (apply r_loadNo; (case hx => rfl); (case h => (repeat (fail))); (case hd => (repeat (fail))); (case hn => rfl)) | (apply r_load1; rfl; (apply Cell.own; (case h => (repeat (first | exact List.Mem.head _ | apply List.Mem.tail | fail))); rfl)) | (apply r_loadN; rfl; (apply CellsAt.own; (case h => (repeat (fail)))); rfl)); (case hf => kernel_rfl); (case hr => kernel_rfl); (case hd => rfl)) | fail)
     all_goals (try (apply d_guardB 8; (case hi => rfl); (case hgd => rfl); (case h1 => rfl); (case h2 => first | rfl); all_goals (intro h; (try simp only [reduceCtorEq, dec_true, dec_false, decide_eq_true_eq, decide_eq_false_iff_not, Bool.not_eq_true', Bool.not_eq_false', Option.isNone_iff_eq_none, beq_true, beq_false, beq_iff_eq, beq_eq_false_iff_ne, ne_eq, decide_eq_decide, Bool.not_eq_true, Bool.not_eq_false, Decidable.not_not] at h); first | done | skip)))
     all_goals (first | (apply d_pass 8; (case hi => rfl); (case hg => rfl); (case hn => rfl); (case hf => kernel_rfl); (case hr => kernel_rfl); (case hd => rfl)) | (apply d_takeG 8; (case hi => rfl); (case hg => rfl); (case hop => first | (apply PureOp.read; apply p_fieldAddrB <;> rfl) | fail); (case hf => kernel_rfl); (case hr => kernel_rfl); (case hd => rfl)) | fail)
     all_goals (try (apply d_guardB 9; (case hi => rfl); (case hgd => rfl); (case h1 => rfl); (case h2 => first | rfl); all_goals (intro h; (try simp only [reduceCtorEq, dec_true, dec_false, decide_eq_true_eq, decide_eq_false_iff_not, Bool.not_eq_true', Bool.not_eq_false', Option.isNone_iff_eq_none, beq_true, beq_false, beq_iff_eq, beq_eq_false_iff_ne, ne_eq, decide_eq_decide, Bool.not_eq_true, Bool.not_eq_false, Decidable.not_not] at h); first | done | skip)))
     all_goals (first | (apply d_pass 9; (case hi => rfl); (case hg => rfl); (case hn => rfl); (case hf => kernel_rfl); (case hr => kernel_rfl); (case hd => rfl)) | (apply d_takeG 9; (case hi => rfl); (case hg => rfl); (case hop => first   | (apply r_loadNo; (case hx => rfl); (case h => (repeat (fail))); (case hd => (repeat (fail))); (case hn => rfl)) | (apply r_load1; rfl; (apply Cell.own; (case h => (repeat (first | exact List.Mem.head _ | fail))); rfl)) | (apply r_loadN; rfl; (apply CellsAt.own; (case h => (repeat (fail)))); rfl)); (case hf => kernel_rfl); (case hr => kernel_rfl); (case hd => rfl)) | fail)
     all_goals (try (apply d_guardB 10; (case hi => rfl); (case hgd => rfl); (case h1 => rfl); (case h2 => first | rfl); all_goals (intro h; (try simp only [reduceCtorEq, dec_true, dec_false, decide_eq_true_eq, decide_eq_false_iff_not, Bool.not_eq_true', Bool.not_eq_false', Option.isNone_iff_eq_none, beq_true, beq_false, beq_iff_eq, beq_eq_false_iff_ne, ne_eq, decide_eq_decide, Bool.not_eq_true, Bool.not_eq_false, Decidable.not_not] at h); first | done | skip)))
     all_goals (first | (apply d_pass 10; (case hi => rfl); (case hg => rfl); (case hn => rfl); (case hf => kernel_rfl); (case hr => kernel_rfl); (case hd => rfl)) | (apply d_takeG 10; (case hi => rfl); (case hg => rfl); (case hop => first | (apply PureOp.read; apply p_le <;> rfl)); (case hf => kernel_rfl); (case hr => kernel_rfl); (case hd => rfl)) | fail)
     all_goals (first | (apply d_take 11; (case hi => rfl); (case hop => first | (apply PureOp.read; apply p_pickT <;> rfl) | (apply PureOp.read; apply p_pickF <;> rfl) | fail); (case hf => kernel_rfl); (case hr => kernel_rfl); (case hd => rfl)) | fail)
     all_goals (first | (apply d_take 12; (case hi => rfl); (case hop => first | (apply PureOp.read; apply p_assign <;> rfl)); (case hf => kernel_rfl); (case hr => kernel_rfl); (case hd => rfl)) | fail)
     all_goals (first | (apply d_take 13; (case hi => rfl); (case hop => first | (apply PureOp.read; apply p_assign <;> rfl)); (case hf => kernel_rfl); (case hr => kernel_rfl); (case hd => rfl)) | fail)
     all_goals (apply d_done; (case hr => kernel_rfl))
     all_goals
       (refine v_ret [(cb, _)] (outsA2 rfl rfl rfl) (by repeat (first | exact List.Sublist.refl _ | apply List.Sublist.cons | fail)) ?_
        refine ⟨?_, rfl⟩
        simp [numR, numF, isNum, hasOf, mostOf, Cm.num, dec_eq, *]))
theorem text_s {G : GH} (hT : TabsG G) (c : Cm) (hk : c.key.size ≤ maxLen) (hv : c.val.size ≤ maxLen) (ho : c.old.size ≤ maxLen) (f : Int) (cb j : Nat) (hj : j < 6) : Con Tryd.prog 142 #[.agg (partL j).toArray, .pointer (some ⟨cb, 0, none⟩), .int .i64 f] G [(cb, .cells c.cells.toArray 27 (0, 0))]
    (Keeps (.tuple [.bool (txtT c f j), .bool (txtF c f j)].toArray) G [(cb, .cells c.cells.toArray 27 (0, 0))]) := by
  apply Con.keeps
  unfold Cm.cells
  simp only [maxLen] at hk hv ho
  refine v_enter Tryd.func142 rfl Tryd.ntmps142 rfl (fun B => ?_)
  obtain rfl | rfl | rfl | rfl | rfl | rfl : j = 0 ∨ j = 1 ∨ j = 2 ∨ j = 3 ∨ j = 4 ∨ j = 5 := by omega
  all_goals
    repeat' (first | apply v_seq | apply v_region | apply v_nil | apply v_skip | (apply v_pure; (case hop => first | (apply p_move <;> rfl) | (apply p_eq <;> rfl) | (apply p_assign <;> rfl) | (apply p_not <;> rfl) | (apply p_fieldAddrB <;> rfl) | (apply p_extract0 <;> rfl) | (apply p_extract1 <;> rfl) | (apply p_assertOk <;> rfl) | (apply p_assertNo <;> rfl) | (apply p_and64 <;> rfl) | fail); (case hd => rfl)) | (apply v_condT; (case hc => rfl)) | (apply v_condF; (case hc => rfl)) | (apply v_cond; (case hc => rfl); all_goals (intro h; (try simp only [reduceCtorEq, dec_true, dec_false, decide_eq_true_eq, decide_eq_false_iff_not, Bool.not_eq_true', Bool.not_eq_false', Option.isNone_iff_eq_none, beq_true, beq_false, beq_iff_eq, beq_eq_false_iff_ne, ne_eq, decide_eq_decide, Bool.not_eq_true, Bool.not_eq_false, Decidable.not_not] at h); first | skip)) | (apply v_callFJ0 (hs := at1_s _ cb); (case hx => rfl); (case ha => rfl); (case hd => rfl)) | (apply v_callFJ0 (hs := at2_s _ cb); (case hx => rfl); (case ha => rfl); (case hd => rfl)) | (apply v_callFJ0 (hs := at3_s _ cb); (case hx => rfl); (case ha => rfl); (case hd => rfl)) | (apply v_callFJ0 (hs := at4_s _ cb); (case hx => rfl); (case ha => rfl); (case hd => rfl)) | (apply v_callFJ0 (hs := at5_s _ cb); (case hx => rfl); (case ha => rfl); (case hd => rfl)) | (apply v_callFJ0 (hs := at6_s _ cb); (case hx => rfl); (case ha => rfl); (case hd => rfl)) | (apply v_read; (case hop => first | (apply r_load1; rfl; (apply Cell.own; (case h => (repeat (first | exact List.Mem.head _ | fail))); rfl)) | fail); (case hd => rfl)) | (apply v_box; (case hx => rfl); (case hz => rfl); (case hd => rfl); intro b) | fail)
  all_goals try
    (refine v_ret [(cb, _)] (outsA2 rfl rfl rfl) (by repeat (first | exact List.Sublist.refl _ | apply List.Sublist.cons | fail)) ?_
     exact ⟨rfl, rfl⟩)
  all_goals try
    (refine d_start _ (by kernel_rfl) (by kernel_rfl) (fun _ he => he) ?_
     all_goals (first | (apply d_take 0; (case hi => rfl); (case hop => first | (apply PureOp.read; apply p_move <;> rfl)); (case hf => kernel_rfl); (case hr => kernel_rfl); (case hd => rfl)) | fail)
     all_goals (first | (apply d_take 1; (case hi => rfl); (case hop => first | (apply PureOp.read; apply p_nilCheck <;> rfl)); (case hf => kernel_rfl); (case hr => kernel_rfl); (case hd => rfl)) | fail)
     all_goals (first | (apply d_take 2; (case hi => rfl); (case hop => first   | (apply r_loadNo; (case hx => rfl); (case h => (repeat (fail))); (case hd => (repeat (fail))); (case hn => rfl)) | (apply r_load1; rfl; (apply Cell.own; (case h => (repeat (first | exact List.Mem.head _ | apply List.Mem.tail | fail))); rfl)) | (apply r_loadN; rfl; (apply CellsAt.own; (case h => (repeat (fail)))); rfl)); (case hf => kernel_rfl); (case hr => kernel_rfl); (case hd => rfl)) | fail)
     all_goals (first | (apply d_take 3; (case hi => rfl); (case hop => first | (apply PureOp.read; apply p_eqS <;> rfl) | fail); (case hf => kernel_rfl); (case hr => kernel_rfl); (case hd => rfl)) | fail)
     all_goals (first | (apply d_take 4; (case hi => rfl); (case hop => first | (apply PureOp.read; apply p_assign <;> rfl)); (case hf => kernel_rfl); (case hr => kernel_rfl); (case hd => rfl)) | fail)
     all_goals (first | (apply d_take 5; (case hi => rfl); (case hop => first | (apply PureOp.read; apply p_assign <;> rfl)); (case hf => kernel_rfl); (case hr => kernel_rfl); (case hd => rfl)) | fail)
     all_goals (apply d_done; (case hr => kernel_rfl))
     refine v_ret [(cb, _)] (outsA2 rfl rfl rfl) (by repeat (first | exact List.Sublist.refl _ | apply List.Sublist.cons | fail)) ?_
     refine ⟨?_, rfl⟩
     simp [txtT, txtF, isNum, hasOf, Cm.txt, dec_nil, *])
  all_goals
    (refine d_start _ (by kernel_rfl) (by kernel_rfl) (fun _ he => he) ?_
     all_goals (first | (apply d_take 0; (case hi => rfl); (case hop => first | (apply PureOp.read; apply p_fieldAddrB <;> rfl) | fail); (case hf => kernel_rfl); (case hr => kernel_rfl); (case hd => rfl)) | fail)
     all_goals (first | (apply d_take 1; (case hi => rfl); (case hop => first   | (apply r_loadNo; (case hx => rfl); (case h => (repeat (fail))); (case hd => (repeat (fail))); (case hn => rfl)) | (apply r_load1; rfl; (apply Cell.own; (case h => (repeat (first | exact List.Mem.head _ | fail))); rfl)) | (apply r_loadN; rfl; (apply CellsAt.own; (case h => (repeat (fail)))); rfl)); (case hf => kernel_rfl); (case hr => kernel_rfl); (case hd => rfl)) | fail)
     all_goals (first | (apply d_take 2; (case hi => rfl); (case hop => first | (apply PureOp.read; apply p_move <;> rfl)); (case hf => kernel_rfl); (case hr => kernel_rfl); (case hd => rfl)) | fail)
     all_goals (first | (apply d_take 3; (case hi => rfl); (case hop => first | (apply PureOp.read; apply p_nilCheck <;> rfl)); (case hf => kernel_rfl); (case hr => kernel_rfl); (case hd => rfl)) | fail)
     all_goals (first | (apply d_take 4; (case hi => rfl); (case hop => first   | (apply r_loadNo; (case hx => rfl); (case h => (repeat (fail))); (case hd => (repeat (fail))); (case hn => rfl)) | (apply r_load1; rfl; (apply Cell.own; (case h => (repeat (first | exact List.Mem.head _ | apply List.Mem.tail | fail))); rfl)) | (apply r_loadN; rfl; (apply CellsAt.own; (case h => (repeat (fail)))); rfl)); (case hf => kernel_rfl); (case hr => kernel_rfl); (case hd => rfl)) | fail)
     all_goals (first | (apply d_callJ0 5 (hs := (key_s (s := c.key) hT (by omega))); (case hi => rfl); (case hr => kernel_rfl); (case hx => rfl); (case ha => rfl); (case hd => rfl)) | (apply d_callJ0 5 (hs := (val_s (s := c.old) hT (by omega))); (case hi => rfl); (case hr => kernel_rfl); (case hx => rfl); (case ha => rfl); (case hd => rfl)) | (apply d_callJ0 5 (hs := (val_s (s := c.val) hT (by omega))); (case hi => rfl); (case hr => kernel_rfl); (case hx => rfl); (case ha => rfl); (case hd => rfl)) | fail)
     all_goals (first | (apply d_take 6; (case hi => rfl); (case hop => first | (apply PureOp.read; apply p_assign <;> rfl)); (case hf => kernel_rfl); (case hr => kernel_rfl); (case hd => rfl)) | fail)
     all_goals (first | (apply d_take 7; (case hi => rfl); (case hop => first | (apply PureOp.read; apply p_assign <;> rfl)); (case hf => kernel_rfl); (case hr => kernel_rfl); (case hd => rfl)) | fail)
     all_goals (apply d_done; (case hr => kernel_rfl))
     all_goals
       (refine v_ret [(cb, _)] (outsA2 rfl rfl rfl) (by repeat (first | exact List.Sublist.refl _ | apply List.Sublist.cons | fail)) ?_
        refine ⟨?_, rfl⟩
        simp [txtT, txtF, isNum, hasOf, isTxt, Cm.txt, dec_nil, *]))
end Go.Proofs.YtnoiahlpmgbhfaaDoor
/-
  cmd (layer 8), the second part: what is wrong with a command.
-/
set_option linter.unusedSimpArgs false
set_option linter.unusedVariables false
namespace Go.Proofs.YtnoiahlpmgbhfaaDoor
open Go.Vx Go.ChangeShapes Go.WideShapes Go.ChangeAt Go.RowKit
def allB (g : Nat → Bool) : Nat → Bool
  | 0 => true
  | k + 1 => allB g k && g k
def allB2 (g h : Nat → Bool) : Nat → Bool
  | 0 => true
  | k + 1 => (allB2 g h k && g k) && h k
noncomputable def cmdI (c : Cm) : Int :=
  if (cmdFields c.kind).2 = false then 5
  else if allB (numR c (cmdFields c.kind).1) 6 = false then 6
  else if allB (txtT c (cmdFields c.kind).1) 6 = false then 7
  else if allB2 (numF c (cmdFields c.kind).1) (txtF c (cmdFields c.kind).1) 6 = false then 3 else 0
theorem partsL_at {k : Nat} (hk : k < 6) : (partsL.drop (k * 4)).take 4 = partL k := by
  obtain rfl | rfl | rfl | rfl | rfl | rfl : k = 0 ∨ k = 1 ∨ k = 2 ∨ k = 3 ∨ k = 4 ∨ k = 5 := by omega
  all_goals rfl
theorem partsG {G : GH} {b : Nat} {e : TypeId} (h : G b = some (.cells partsL.toArray e (0, 0))) {k : Nat} (hk : k < 6) : CellsG G ((⟨b, 0, none⟩ : Addr).add (k * 4)) (partL k) := by
  intro j v hv
  rw [add_mk, add_mk, Nat.zero_add]
  rw [← partsL_at hk, List.getElem?_take] at hv
  split at hv
  · rw [List.getElem?_drop] at hv
    simp [GH.cell?, h, hv]
  · cases hv
theorem cmdCheck_s {G : GH} (hT : TabsG G) (c : Cm) (hc : c.ok) : Con Tryd.prog 101 #[.agg c.cells.toArray] G [] (fun r _ μ' => r = .int .i64 (cmdI c) ∧ μ' = []) := by
  obtain ⟨hk1, hc1, hs1, hk, hv, ho, hn1⟩ := id hc
  refine v_enter Tryd.func101 rfl Tryd.ntmps101 rfl (fun B => ?_)
  obtain ⟨f, is, hf⟩ : ∃ f is, cmdFields c.kind = (f, is) := ⟨_, _, rfl⟩
  have hfs := fields_s G c.kind
  rw [hf] at hfs
  repeat' (first | apply v_seq | apply v_region | apply v_nil | apply v_skip | (apply v_pure; (case hop => first | (apply p_move <;> rfl) | (apply p_assign <;> rfl) | (apply p_not <;> rfl) | (apply p_fieldAddrB <;> rfl) | (apply p_extract0 <;> rfl) | (apply p_extract1 <;> rfl) | fail); (case hd => rfl)) | (apply v_cond; (case hc => rfl); all_goals (intro h; (try simp only [reduceCtorEq, dec_true, dec_false, decide_eq_true_eq, decide_eq_false_iff_not, Bool.not_eq_true', Bool.not_eq_false', Option.isNone_iff_eq_none, beq_true, beq_false, beq_iff_eq, beq_eq_false_iff_ne, ne_eq, decide_eq_decide, Bool.not_eq_true, Bool.not_eq_false, Decidable.not_not] at h); first | skip)) | (apply v_box (zs := c.cells); (case hx => rfl); (case hz => rfl); (case hd => rfl); intro cb) | (apply v_callJ (hs := hfs); (case ha => rfl); (case hd => rfl)) | (apply v_read; (case hop => first | (apply r_load1; rfl; (apply Cell.own; (case h => (repeat (first | exact List.Mem.head _ | fail))); rfl)) | fail); (case hd => rfl)) | fail)
  · refine v_ret [] (outsA1 rfl rfl) (by repeat (first | exact List.nil_sublist _ | fail)) ?_
    refine ⟨?_, rfl⟩
    rw [cmdI, hf, if_pos (by assumption)]
  refine v_call (μ1 := []) (μ2 := _) rfl (parts_s G) (List.Perm.refl _) rfl ?_
  rintro r G' μ1 - ⟨rfl, pb, rfl, rfl⟩
  refine v_frz [(pb, _)] (by repeat (first | exact PickA.here _ | fail)) ?_
  intro G1 hle1 hG1
  have hpb := hG1 pb _ (List.Mem.head _)
  have hT1 := hT.le hle1
  repeat' (first | apply v_nil | apply v_block | (apply v_pure; (case hop => first | (apply p_move <;> rfl) | (apply p_lenSlice <;> rfl) | fail); (case hd => rfl)) | fail)
  refine v_loop [24, 23, 22, 5, 6, 7, 1, 3] (fun us G' μ' => G' = G1 ∧ μ' = [(cb, .cells c.cells.toArray 27 (0, 0))] ∧ ∃ (k : Nat) (R T F : Bool), us = [Value.int .i64 (k : Int), .int .i64 6, .slice (some ⟨pb, 0, none⟩) 6 6, .bool R, .bool T, .bool F, .pointer (some ⟨cb, 0, none⟩), .int .i64 f] ∧ k ≤ 6 ∧ R = allB (numR c f) k ∧ T = allB (txtT c f) k ∧ F = allB2 (numF c f) (txtF c f) k) (fun us => 7 - (headI us).toNat) rfl ⟨rfl, rfl, 0, true, true, true, rfl, by omega, rfl, rfl, rfl⟩ ?_
  rintro us G' μ' ⟨rfl, rfl, k, R, T, F, rfl, hk6, hR, hTt, hF⟩
  by_cases hlt : k < 6
  · have hnum := number_s G' c f cb k hlt
    have htxt := text_s hT1 c hk hv ho f cb k hlt
    have hpk := partsG hpb hlt
    have e1 : allB (numR c f) (k + 1) = (R && numR c f k) := by rw [hR]; rfl
    have e2 : allB (txtT c f) (k + 1) = (T && txtT c f k) := by rw [hTt]; rfl
    have e3 : allB2 (numF c f) (txtF c f) (k + 1) = ((F && numF c f k) && txtF c f k) := by rw [hF]; rfl
    generalize numR c f k = a1 at *
    generalize numF c f k = a2 at *
    generalize txtT c f k = a3 at *
    generalize txtF c f k = a4 at *
    clear hR hTt hF
    obtain rfl | rfl | rfl | rfl | rfl | rfl : k = 0 ∨ k = 1 ∨ k = 2 ∨ k = 3 ∨ k = 4 ∨ k = 5 := by omega
    all_goals
      (repeat' (first | (apply v_guardM; (case h1 => rfl); (case h2 => rfl); (case hop => (apply p_move; rfl)); (case hd => rfl)) | apply v_seq | apply v_region | apply v_nil | apply v_skip | apply v_block | apply v_blk | (apply v_pure; (case hop => first | (apply p_move <;> rfl) | (apply p_lt <;> rfl) | (apply p_assign <;> rfl) | (apply p_extract0 <;> rfl) | (apply p_extract1 <;> rfl) | (apply p_add; (case hx => rfl); (case hy => rfl); (case h => omega)) | (apply p_indexAddr; (case hx => rfl); (case hi => rfl); (case h0 => omega); (case h => omega)) | (apply p_pickAnd <;> rfl) | fail); (case hd => rfl)) | (apply v_cond; (case hc => rfl); all_goals (intro h; (try simp only [reduceCtorEq, dec_true, dec_false, decide_eq_true_eq, decide_eq_false_iff_not, Bool.not_eq_true', Bool.not_eq_false', Option.isNone_iff_eq_none, beq_true, beq_false, beq_iff_eq, beq_eq_false_iff_ne, ne_eq, decide_eq_decide, Bool.not_eq_true, Bool.not_eq_false, Decidable.not_not] at h); first | (exfalso; omega) | skip)) | (apply v_read; (case hop => (apply r_loadN; rfl; exact CellsAt.frozen hpk; rfl)); (case hd => rfl)) | (apply v_callK (hs := hnum); (case ha => rfl); (case hp => first | exact (Pick.perm (by repeat (first | exact Pick.here _ | apply Pick.there | fail))) | fail); (case hd => rfl)) | (apply v_callK (hs := htxt); (case ha => rfl); (case hp => first | exact (Pick.perm (by repeat (first | exact Pick.here _ | apply Pick.there | fail))) | fail); (case hd => rfl)) | (apply v_read; (case hop => first | (apply r_loadNo; (case hx => rfl); (case h => (repeat (first | exact List.Mem.head _ | fail))); (case hd => (repeat (first | with_reducible exact dt_nil | apply dt_here | fail))); (case hn => rfl)) | fail); (case hd => rfl)) | (apply v_alloc; (case hz => rfl); (case hd => rfl); intro b) | (apply v_store; (case hp => rfl); (case hx => rfl); (case hc => rfl); (case hsz => rfl); (case h1 => rfl); (case hb => (repeat (first | exact List.Mem.head _ | fail))); (case hfit => first | exact Nat.le_of_ble_eq_true rfl | fail); (case hov => (first | ((repeat (first | with_reducible exact ov_nil | apply ov_cons | fail)); done) | fail)); (case hu => repeat (first | exact Upd.here _ _ | fail))) | fail))
    all_goals
      (refine v_only [(cb, _)] (by repeat (first | exact PickA.last | apply PickA.cons | fail)) ?_
       refine v_again rfl ⟨rfl, rfl, _, _, _, _, ?_, ?_, e1.symm, e2.symm, e3.symm⟩ ?_
       · rfl
       · omega
       · simp [headI])
  · obtain rfl : k = 6 := by omega
    have his : is = true := by assumption
    subst his
    repeat' (first | apply v_seq | apply v_region | apply v_nil | apply v_skip | apply v_block | apply v_blk | (apply v_exit; (case hp => rfl)) | (apply v_pure; (case hop => first | (apply p_move <;> rfl) | (apply p_lt <;> rfl) | (apply p_assign <;> rfl) | (apply p_not <;> rfl) | fail); (case hd => rfl)) | (apply v_cond; (case hc => rfl); all_goals (intro h; (try simp only [reduceCtorEq, dec_true, dec_false, decide_eq_true_eq, decide_eq_false_iff_not, Bool.not_eq_true', Bool.not_eq_false', Option.isNone_iff_eq_none, beq_true, beq_false, beq_iff_eq, beq_eq_false_iff_ne, ne_eq, decide_eq_decide, Bool.not_eq_true, Bool.not_eq_false, Decidable.not_not] at h); first | (exfalso; omega) | skip)) | fail)
    all_goals
      (refine v_ret [] (outsA1 rfl rfl) (by repeat (first | exact List.nil_sublist _ | fail)) ?_
       refine ⟨?_, rfl⟩
       rw [cmdI, hf, if_neg (by simp)]
       simp only [← hR, ← hTt, ← hF]
       clear hR hTt hF
       simp [*])
/-! ### The reference -/
theorem band_0_1 : band 0 1 = 0 := by decide
theorem band_0_2 : band 0 2 = 0 := by decide
theorem band_0_4 : band 0 4 = 0 := by decide
theorem band_0_8 : band 0 8 = 0 := by decide
theorem band_0_16 : band 0 16 = 0 := by decide
theorem band_3_1 : band 3 1 = 1 := by decide
theorem band_3_2 : band 3 2 = 2 := by decide
theorem band_3_4 : band 3 4 = 0 := by decide
theorem band_3_8 : band 3 8 = 0 := by decide
theorem band_3_16 : band 3 16 = 0 := by decide
theorem band_11_1 : band 11 1 = 1 := by decide
theorem band_11_2 : band 11 2 = 2 := by decide
theorem band_11_4 : band 11 4 = 0 := by decide
theorem band_11_8 : band 11 8 = 8 := by decide
theorem band_11_16 : band 11 16 = 0 := by decide
theorem band_15_1 : band 15 1 = 1 := by decide
theorem band_15_2 : band 15 2 = 2 := by decide
theorem band_15_4 : band 15 4 = 4 := by decide
theorem band_15_8 : band 15 8 = 8 := by decide
theorem band_15_16 : band 15 16 = 0 := by decide
theorem band_16_1 : band 16 1 = 0 := by decide
theorem band_16_2 : band 16 2 = 0 := by decide
theorem band_16_4 : band 16 4 = 0 := by decide
theorem band_16_8 : band 16 8 = 0 := by decide
theorem band_16_16 : band 16 16 = 16 := by decide
theorem owned_s (G : GH) (k : Int) : Con Tryd.prog 97 #[.int .i64 k] G [] (Just (.bool (decide (2 ≤ k ∧ k ≤ 5))) G) := by
  refine v_enter Tryd.func97 rfl Tryd.ntmps97 rfl (fun B => ?_)
  repeat' (first | apply v_seq | apply v_region | apply v_nil | (apply v_take; (case hg => rfl)) | (apply v_pass; (case hg => rfl); (case hn => rfl); (case hd => rfl)) | (apply v_pure; (case hop => first | (apply p_move <;> rfl) | (apply p_le <;> rfl) | (apply p_ge <;> rfl) | (apply p_assign <;> rfl) | (apply p_pickT <;> rfl) | (apply p_pickF <;> rfl) | fail); (case hd => rfl)) | (apply v_guardB; (case h1 => rfl); (case h2 => rfl); all_goals (intro h; (try simp only [reduceCtorEq, dec_true, dec_false, decide_eq_true_eq, decide_eq_false_iff_not, Bool.not_eq_true', Bool.not_eq_false', Option.isNone_iff_eq_none, beq_true, beq_false, beq_iff_eq, beq_eq_false_iff_ne, ne_eq, decide_eq_decide, Bool.not_eq_true, Bool.not_eq_false, Decidable.not_not] at h); first | skip)) | fail)
  all_goals
    (refine v_ret [] (outsA1 rfl rfl) (by repeat (first | exact List.Sublist.refl _ | fail)) ?_
     refine ⟨?_, rfl, rfl⟩
     first
       | (rw [decide_eq_false (by omega)])
       | (by_cases h5 : k ≤ 5
          · rw [dec_pos h5, decide_eq_true (by omega)]
          · rw [dec_neg h5, decide_eq_false (by omega)]))
theorem member_s (G : GH) (k : Int) : Con Tryd.prog 99 #[.int .i64 k] G [] (Just (.bool (decide (k = 7 ∨ k = 8))) G) := by
  refine v_enter Tryd.func99 rfl Tryd.ntmps99 rfl (fun B => ?_)
  repeat' (first | apply v_seq | apply v_region | apply v_nil | (apply v_take; (case hg => rfl)) | (apply v_pass; (case hg => rfl); (case hn => rfl); (case hd => rfl)) | (apply v_pure; (case hop => first | (apply p_move <;> rfl) | (apply p_eq <;> rfl) | (apply p_assign <;> rfl) | (apply p_pickT <;> rfl) | (apply p_pickF <;> rfl) | fail); (case hd => rfl)) | (apply v_guardB; (case h1 => rfl); (case h2 => rfl); all_goals (intro h; (try simp only [reduceCtorEq, dec_true, dec_false, decide_eq_true_eq, decide_eq_false_iff_not, Bool.not_eq_true', Bool.not_eq_false', Option.isNone_iff_eq_none, beq_true, beq_false, beq_iff_eq, beq_eq_false_iff_ne, ne_eq, decide_eq_decide, Bool.not_eq_true, Bool.not_eq_false, Decidable.not_not] at h); first | skip)) | fail)
  all_goals
    (refine v_ret [] (outsA1 rfl rfl) (by repeat (first | exact List.Sublist.refl _ | fail)) ?_
     refine ⟨?_, rfl, rfl⟩
     first
       | (rw [decide_eq_true (by omega)])
       | (by_cases h5 : k = 8
          · rw [dec_pos h5, decide_eq_true (by omega)]
          · rw [dec_neg h5, decide_eq_false (by omega)]))
noncomputable def cmdE (c : Cm) : Int :=
  if c.kind < 1 ∨ 8 < c.kind then 5
  else if ((2 ≤ c.kind ∧ c.kind ≤ 5) ∧ ¬ (1 ≤ c.client ∧ c.client ≤ 8 ∧ 1 ≤ c.seq ∧ c.seq ≤ 4294967296)) ∨ ((c.kind = 7 ∨ c.kind = 8) ∧ ¬ (1 ≤ c.node ∧ c.node ≤ 9)) then 6
  else if ((2 ≤ c.kind ∧ c.kind ≤ 5) ∧ keyB c.key = false) ∨ ((c.kind = 2 ∨ c.kind = 5) ∧ valB c.val = false) ∨ (c.kind = 5 ∧ valB c.old = false) then 7
  else if (¬ (2 ≤ c.kind ∧ c.kind ≤ 5) ∧ (c.client ≠ 0 ∨ c.seq ≠ 0 ∨ c.key.size ≠ 0)) ∨ (¬ (c.kind = 2 ∨ c.kind = 5) ∧ c.val.size ≠ 0) ∨ (c.kind ≠ 5 ∧ c.old.size ≠ 0) ∨ (¬ (c.kind = 7 ∨ c.kind = 8) ∧ c.node ≠ 0) then 3 else 0
theorem nil_iff {s : ByteArray} : s = { data := #[] } ↔ s.size = 0 := by
  constructor
  · intro h; rw [h]; rfl
  · intro h
    apply ByteArray.ext
    exact Array.eq_empty_of_size_eq_zero h
theorem ite6 {p : Bool} {a b : Int} {q : Prop} [Decidable q] (h : p = false ↔ q) : (if p = false then a else b) = (if q then a else b) := by
  by_cases hq : q
  · rw [if_pos hq, if_pos (h.2 hq)]
  · rw [if_neg hq, if_neg (fun e => hq (h.1 e))]
theorem cmdI_case {c : Cm} (f : Int) {q1 q2 q3 : Prop} [Decidable q1] [Decidable q2] [Decidable q3] (hf : cmdFields c.kind = (f, true)) (h1 : allB (numR c f) 6 = false ↔ q1) (h2 : allB (txtT c f) 6 = false ↔ q2) (h3 : allB2 (numF c f) (txtF c f) 6 = false ↔ q3) :
    (if (cmdFields c.kind).2 = false then (5 : Int) else if allB (numR c (cmdFields c.kind).1) 6 = false then 6 else if allB (txtT c (cmdFields c.kind).1) 6 = false then 7 else if allB2 (numF c (cmdFields c.kind).1) (txtF c (cmdFields c.kind).1) 6 = false then 3 else 0) = (if q1 then 6 else if q2 then 7 else if q3 then 3 else 0) := by
  rw [hf, if_neg (by simp), ite6 h1, ite6 h2, ite6 h3]
theorem cmdI_eq (c : Cm) : cmdI c = cmdE c := by
  obtain ⟨kind, client, seq, key, val, old, node⟩ := c
  by_cases hr : kind < 1 ∨ 8 < kind
  · have : cmdFields kind = (0, false) := by unfold cmdFields; rw [if_neg (by omega), if_neg (by omega), if_neg (by omega), if_neg (by omega), if_neg (by omega)]
    simp only [cmdI, cmdE, this, if_true]
    rw [if_pos hr]
  · unfold cmdI cmdE
    simp only
    rw [if_neg hr]
    obtain rfl | rfl | rfl | rfl | rfl | rfl | rfl | rfl : kind = 1 ∨ kind = 2 ∨ kind = 3 ∨ kind = 4 ∨ kind = 5 ∨ kind = 6 ∨ kind = 7 ∨ kind = 8 := by omega
    · refine cmdI_case (c := ⟨1, client, seq, key, val, old, node⟩) 0 rfl ?_ ?_ ?_
      · first | (simp [allB, allB2, numR, numF, txtT, txtF, isNum, hasOf, mostOf, isTxt, Cm.num, Cm.txt, band_0_1, band_0_2, band_0_4, band_0_8, band_0_16, band_3_1, band_3_2, band_3_4, band_3_8, band_3_16, band_11_1, band_11_2, band_11_4, band_11_8, band_11_16, band_15_1, band_15_2, band_15_4, band_15_8, band_15_16, band_16_1, band_16_2, band_16_4, band_16_8, band_16_16]; done) | fail
      · cases hk : keyB key <;> cases hv : valB val <;> cases ho : valB old <;> simp [hk, hv, ho, allB, allB2, numR, numF, txtT, txtF, isNum, hasOf, mostOf, isTxt, Cm.num, Cm.txt, band_0_1, band_0_2, band_0_4, band_0_8, band_0_16, band_3_1, band_3_2, band_3_4, band_3_8, band_3_16, band_11_1, band_11_2, band_11_4, band_11_8, band_11_16, band_15_1, band_15_2, band_15_4, band_15_8, band_15_16, band_16_1, band_16_2, band_16_4, band_16_8, band_16_16]
      · first | (simp [allB, allB2, numR, numF, txtT, txtF, isNum, hasOf, mostOf, isTxt, Cm.num, Cm.txt, band_0_1, band_0_2, band_0_4, band_0_8, band_0_16, band_3_1, band_3_2, band_3_4, band_3_8, band_3_16, band_11_1, band_11_2, band_11_4, band_11_8, band_11_16, band_15_1, band_15_2, band_15_4, band_15_8, band_15_16, band_16_1, band_16_2, band_16_4, band_16_8, band_16_16]; grind)
    · refine cmdI_case (c := ⟨2, client, seq, key, val, old, node⟩) 11 rfl ?_ ?_ ?_
      · first | (simp [allB, allB2, numR, numF, txtT, txtF, isNum, hasOf, mostOf, isTxt, Cm.num, Cm.txt, band_0_1, band_0_2, band_0_4, band_0_8, band_0_16, band_3_1, band_3_2, band_3_4, band_3_8, band_3_16, band_11_1, band_11_2, band_11_4, band_11_8, band_11_16, band_15_1, band_15_2, band_15_4, band_15_8, band_15_16, band_16_1, band_16_2, band_16_4, band_16_8, band_16_16]; done) | fail
      · cases hk : keyB key <;> cases hv : valB val <;> cases ho : valB old <;> simp [hk, hv, ho, allB, allB2, numR, numF, txtT, txtF, isNum, hasOf, mostOf, isTxt, Cm.num, Cm.txt, band_0_1, band_0_2, band_0_4, band_0_8, band_0_16, band_3_1, band_3_2, band_3_4, band_3_8, band_3_16, band_11_1, band_11_2, band_11_4, band_11_8, band_11_16, band_15_1, band_15_2, band_15_4, band_15_8, band_15_16, band_16_1, band_16_2, band_16_4, band_16_8, band_16_16]
      · first | (simp [allB, allB2, numR, numF, txtT, txtF, isNum, hasOf, mostOf, isTxt, Cm.num, Cm.txt, band_0_1, band_0_2, band_0_4, band_0_8, band_0_16, band_3_1, band_3_2, band_3_4, band_3_8, band_3_16, band_11_1, band_11_2, band_11_4, band_11_8, band_11_16, band_15_1, band_15_2, band_15_4, band_15_8, band_15_16, band_16_1, band_16_2, band_16_4, band_16_8, band_16_16]; grind)
    · refine cmdI_case (c := ⟨3, client, seq, key, val, old, node⟩) 3 rfl ?_ ?_ ?_
      · first | (simp [allB, allB2, numR, numF, txtT, txtF, isNum, hasOf, mostOf, isTxt, Cm.num, Cm.txt, band_0_1, band_0_2, band_0_4, band_0_8, band_0_16, band_3_1, band_3_2, band_3_4, band_3_8, band_3_16, band_11_1, band_11_2, band_11_4, band_11_8, band_11_16, band_15_1, band_15_2, band_15_4, band_15_8, band_15_16, band_16_1, band_16_2, band_16_4, band_16_8, band_16_16]; done) | fail
      · cases hk : keyB key <;> cases hv : valB val <;> cases ho : valB old <;> simp [hk, hv, ho, allB, allB2, numR, numF, txtT, txtF, isNum, hasOf, mostOf, isTxt, Cm.num, Cm.txt, band_0_1, band_0_2, band_0_4, band_0_8, band_0_16, band_3_1, band_3_2, band_3_4, band_3_8, band_3_16, band_11_1, band_11_2, band_11_4, band_11_8, band_11_16, band_15_1, band_15_2, band_15_4, band_15_8, band_15_16, band_16_1, band_16_2, band_16_4, band_16_8, band_16_16]
      · first | (simp [allB, allB2, numR, numF, txtT, txtF, isNum, hasOf, mostOf, isTxt, Cm.num, Cm.txt, band_0_1, band_0_2, band_0_4, band_0_8, band_0_16, band_3_1, band_3_2, band_3_4, band_3_8, band_3_16, band_11_1, band_11_2, band_11_4, band_11_8, band_11_16, band_15_1, band_15_2, band_15_4, band_15_8, band_15_16, band_16_1, band_16_2, band_16_4, band_16_8, band_16_16]; grind)
    · refine cmdI_case (c := ⟨4, client, seq, key, val, old, node⟩) 3 rfl ?_ ?_ ?_
      · first | (simp [allB, allB2, numR, numF, txtT, txtF, isNum, hasOf, mostOf, isTxt, Cm.num, Cm.txt, band_0_1, band_0_2, band_0_4, band_0_8, band_0_16, band_3_1, band_3_2, band_3_4, band_3_8, band_3_16, band_11_1, band_11_2, band_11_4, band_11_8, band_11_16, band_15_1, band_15_2, band_15_4, band_15_8, band_15_16, band_16_1, band_16_2, band_16_4, band_16_8, band_16_16]; done) | fail
      · cases hk : keyB key <;> cases hv : valB val <;> cases ho : valB old <;> simp [hk, hv, ho, allB, allB2, numR, numF, txtT, txtF, isNum, hasOf, mostOf, isTxt, Cm.num, Cm.txt, band_0_1, band_0_2, band_0_4, band_0_8, band_0_16, band_3_1, band_3_2, band_3_4, band_3_8, band_3_16, band_11_1, band_11_2, band_11_4, band_11_8, band_11_16, band_15_1, band_15_2, band_15_4, band_15_8, band_15_16, band_16_1, band_16_2, band_16_4, band_16_8, band_16_16]
      · first | (simp [allB, allB2, numR, numF, txtT, txtF, isNum, hasOf, mostOf, isTxt, Cm.num, Cm.txt, band_0_1, band_0_2, band_0_4, band_0_8, band_0_16, band_3_1, band_3_2, band_3_4, band_3_8, band_3_16, band_11_1, band_11_2, band_11_4, band_11_8, band_11_16, band_15_1, band_15_2, band_15_4, band_15_8, band_15_16, band_16_1, band_16_2, band_16_4, band_16_8, band_16_16]; grind)
    · refine cmdI_case (c := ⟨5, client, seq, key, val, old, node⟩) 15 rfl ?_ ?_ ?_
      · first | (simp [allB, allB2, numR, numF, txtT, txtF, isNum, hasOf, mostOf, isTxt, Cm.num, Cm.txt, band_0_1, band_0_2, band_0_4, band_0_8, band_0_16, band_3_1, band_3_2, band_3_4, band_3_8, band_3_16, band_11_1, band_11_2, band_11_4, band_11_8, band_11_16, band_15_1, band_15_2, band_15_4, band_15_8, band_15_16, band_16_1, band_16_2, band_16_4, band_16_8, band_16_16]; done) | fail
      · cases hk : keyB key <;> cases hv : valB val <;> cases ho : valB old <;> simp [hk, hv, ho, allB, allB2, numR, numF, txtT, txtF, isNum, hasOf, mostOf, isTxt, Cm.num, Cm.txt, band_0_1, band_0_2, band_0_4, band_0_8, band_0_16, band_3_1, band_3_2, band_3_4, band_3_8, band_3_16, band_11_1, band_11_2, band_11_4, band_11_8, band_11_16, band_15_1, band_15_2, band_15_4, band_15_8, band_15_16, band_16_1, band_16_2, band_16_4, band_16_8, band_16_16]
      · first | (simp [allB, allB2, numR, numF, txtT, txtF, isNum, hasOf, mostOf, isTxt, Cm.num, Cm.txt, band_0_1, band_0_2, band_0_4, band_0_8, band_0_16, band_3_1, band_3_2, band_3_4, band_3_8, band_3_16, band_11_1, band_11_2, band_11_4, band_11_8, band_11_16, band_15_1, band_15_2, band_15_4, band_15_8, band_15_16, band_16_1, band_16_2, band_16_4, band_16_8, band_16_16]; done) | fail
    · refine cmdI_case (c := ⟨6, client, seq, key, val, old, node⟩) 0 rfl ?_ ?_ ?_
      · first | (simp [allB, allB2, numR, numF, txtT, txtF, isNum, hasOf, mostOf, isTxt, Cm.num, Cm.txt, band_0_1, band_0_2, band_0_4, band_0_8, band_0_16, band_3_1, band_3_2, band_3_4, band_3_8, band_3_16, band_11_1, band_11_2, band_11_4, band_11_8, band_11_16, band_15_1, band_15_2, band_15_4, band_15_8, band_15_16, band_16_1, band_16_2, band_16_4, band_16_8, band_16_16]; done) | fail
      · cases hk : keyB key <;> cases hv : valB val <;> cases ho : valB old <;> simp [hk, hv, ho, allB, allB2, numR, numF, txtT, txtF, isNum, hasOf, mostOf, isTxt, Cm.num, Cm.txt, band_0_1, band_0_2, band_0_4, band_0_8, band_0_16, band_3_1, band_3_2, band_3_4, band_3_8, band_3_16, band_11_1, band_11_2, band_11_4, band_11_8, band_11_16, band_15_1, band_15_2, band_15_4, band_15_8, band_15_16, band_16_1, band_16_2, band_16_4, band_16_8, band_16_16]
      · first | (simp [allB, allB2, numR, numF, txtT, txtF, isNum, hasOf, mostOf, isTxt, Cm.num, Cm.txt, band_0_1, band_0_2, band_0_4, band_0_8, band_0_16, band_3_1, band_3_2, band_3_4, band_3_8, band_3_16, band_11_1, band_11_2, band_11_4, band_11_8, band_11_16, band_15_1, band_15_2, band_15_4, band_15_8, band_15_16, band_16_1, band_16_2, band_16_4, band_16_8, band_16_16]; grind)
    · refine cmdI_case (c := ⟨7, client, seq, key, val, old, node⟩) 16 rfl ?_ ?_ ?_
      · first | (simp [allB, allB2, numR, numF, txtT, txtF, isNum, hasOf, mostOf, isTxt, Cm.num, Cm.txt, band_0_1, band_0_2, band_0_4, band_0_8, band_0_16, band_3_1, band_3_2, band_3_4, band_3_8, band_3_16, band_11_1, band_11_2, band_11_4, band_11_8, band_11_16, band_15_1, band_15_2, band_15_4, band_15_8, band_15_16, band_16_1, band_16_2, band_16_4, band_16_8, band_16_16]; done) | fail
      · cases hk : keyB key <;> cases hv : valB val <;> cases ho : valB old <;> simp [hk, hv, ho, allB, allB2, numR, numF, txtT, txtF, isNum, hasOf, mostOf, isTxt, Cm.num, Cm.txt, band_0_1, band_0_2, band_0_4, band_0_8, band_0_16, band_3_1, band_3_2, band_3_4, band_3_8, band_3_16, band_11_1, band_11_2, band_11_4, band_11_8, band_11_16, band_15_1, band_15_2, band_15_4, band_15_8, band_15_16, band_16_1, band_16_2, band_16_4, band_16_8, band_16_16]
      · first | (simp [allB, allB2, numR, numF, txtT, txtF, isNum, hasOf, mostOf, isTxt, Cm.num, Cm.txt, band_0_1, band_0_2, band_0_4, band_0_8, band_0_16, band_3_1, band_3_2, band_3_4, band_3_8, band_3_16, band_11_1, band_11_2, band_11_4, band_11_8, band_11_16, band_15_1, band_15_2, band_15_4, band_15_8, band_15_16, band_16_1, band_16_2, band_16_4, band_16_8, band_16_16]; grind)
    · refine cmdI_case (c := ⟨8, client, seq, key, val, old, node⟩) 16 rfl ?_ ?_ ?_
      · first | (simp [allB, allB2, numR, numF, txtT, txtF, isNum, hasOf, mostOf, isTxt, Cm.num, Cm.txt, band_0_1, band_0_2, band_0_4, band_0_8, band_0_16, band_3_1, band_3_2, band_3_4, band_3_8, band_3_16, band_11_1, band_11_2, band_11_4, band_11_8, band_11_16, band_15_1, band_15_2, band_15_4, band_15_8, band_15_16, band_16_1, band_16_2, band_16_4, band_16_8, band_16_16]; done) | fail
      · cases hk : keyB key <;> cases hv : valB val <;> cases ho : valB old <;> simp [hk, hv, ho, allB, allB2, numR, numF, txtT, txtF, isNum, hasOf, mostOf, isTxt, Cm.num, Cm.txt, band_0_1, band_0_2, band_0_4, band_0_8, band_0_16, band_3_1, band_3_2, band_3_4, band_3_8, band_3_16, band_11_1, band_11_2, band_11_4, band_11_8, band_11_16, band_15_1, band_15_2, band_15_4, band_15_8, band_15_16, band_16_1, band_16_2, band_16_4, band_16_8, band_16_16]
      · first | (simp [allB, allB2, numR, numF, txtT, txtF, isNum, hasOf, mostOf, isTxt, Cm.num, Cm.txt, band_0_1, band_0_2, band_0_4, band_0_8, band_0_16, band_3_1, band_3_2, band_3_4, band_3_8, band_3_16, band_11_1, band_11_2, band_11_4, band_11_8, band_11_16, band_15_1, band_15_2, band_15_4, band_15_8, band_15_16, band_16_1, band_16_2, band_16_4, band_16_8, band_16_16]; grind)
end Go.Proofs.YtnoiahlpmgbhfaaDoor
/-
  cmd (layer 8), the third part: the reference says the same.
-/
set_option linter.unusedSimpArgs false
set_option linter.unusedVariables false
namespace Go.Proofs.YtnoiahlpmgbhfaaDoor
open Go.Vx Go.ChangeShapes Go.WideShapes Go.ChangeAt Go.RowKit
set_option maxHeartbeats 4000000 in
theorem refCmdCheck_s {G : GH} (c : Cm) (hc : c.ok) : Con Tryd.prog 67 #[.agg c.cells.toArray] G [] (fun r _ μ' => r = .int .i64 (cmdI c) ∧ μ' = []) := by
  obtain ⟨hk1, hc1, hs1, hk, hv, ho, hn1⟩ := id hc
  simp only [maxLen] at hk hv ho
  have qk := refKey_s (G := G) (s := c.key) (by omega)
  have qv := refVal_s (G := G) (s := c.val) (by omega)
  have qo := refVal_s (G := G) (s := c.old) (by omega)
  obtain ⟨kind, client, seq, key, val, old, node⟩ := c
  simp only at qk qv qo
  refine v_enter Tryd.func67 rfl Tryd.ntmps67 rfl (fun B => ?_)
  by_cases hr : kind < 1 ∨ 8 < kind
  · repeat' (first | apply v_seq | apply v_region | apply v_nil | (apply v_take; (case hg => rfl)) | (apply v_pass; (case hg => rfl); (case hn => rfl); (case hd => rfl)) | (apply v_pure; (case hop => first | (apply p_move <;> rfl) | (apply p_lt <;> rfl) | (apply p_gt <;> rfl) | (apply p_assign <;> rfl) | (apply p_pickT <;> rfl) | (apply p_pickF <;> rfl) | (apply p_fieldAddrB <;> rfl) | fail); (case hd => rfl)) | (apply v_condT; (case hc => rfl)) | (apply v_cond; (case hc => rfl); all_goals (intro h; (try simp only [reduceCtorEq, dec_true, dec_false, decide_eq_true_eq, decide_eq_false_iff_not, Bool.not_eq_true', Bool.not_eq_false', Option.isNone_iff_eq_none, beq_true, beq_false, beq_iff_eq, beq_eq_false_iff_ne, ne_eq, decide_eq_decide, Bool.not_eq_true, Bool.not_eq_false, Decidable.not_not] at h); first | (exfalso; omega) | skip)) | (apply v_guardB; (case h1 => rfl); (case h2 => rfl); all_goals (intro h; (try simp only [reduceCtorEq, dec_true, dec_false, decide_eq_true_eq, decide_eq_false_iff_not, Bool.not_eq_true', Bool.not_eq_false', Option.isNone_iff_eq_none, beq_true, beq_false, beq_iff_eq, beq_eq_false_iff_ne, ne_eq, decide_eq_decide, Bool.not_eq_true, Bool.not_eq_false, Decidable.not_not] at h); first | skip)) | (apply v_box (zs := Cm.cells ⟨kind, client, seq, key, val, old, node⟩); (case hx => rfl); (case hz => rfl); (case hd => rfl); intro cb) | (apply v_read; (case hop => first | (apply r_load1; rfl; (apply Cell.own; (case h => (repeat (first | exact List.Mem.head _ | fail))); rfl)) | fail); (case hd => rfl)) | fail)
    all_goals
      (refine v_ret [] (outsA1 rfl rfl) (by repeat (first | exact List.nil_sublist _ | fail)) ?_
       refine ⟨?_, rfl⟩
       have : cmdFields kind = (0, false) := by unfold cmdFields; rw [if_neg (by omega), if_neg (by omega), if_neg (by omega), if_neg (by omega), if_neg (by omega)]
       simp [cmdI, this])
  have qw := owned_s G kind
  have qm := member_s G kind
  obtain rfl | rfl | rfl | rfl | rfl | rfl | rfl | rfl : kind = 1 ∨ kind = 2 ∨ kind = 3 ∨ kind = 4 ∨ kind = 5 ∨ kind = 6 ∨ kind = 7 ∨ kind = 8 := by omega
  all_goals
    (first | rw [decide_eq_true (by omega)] at qw | rw [decide_eq_false (by omega)] at qw)
    (first | rw [decide_eq_true (by omega)] at qm | rw [decide_eq_false (by omega)] at qm)
    repeat' (first | apply v_seq | apply v_region | apply v_nil | apply v_skip | (apply v_take; (case hg => rfl)) | (apply v_pass; (case hg => rfl); (case hn => rfl); (case hd => rfl)) | (apply v_passN; (case hg => rfl); (case hn => rfl); (case hd => rfl)) | (apply v_pure; (case hop => first | (apply p_move <;> rfl) | (apply p_eqs <;> rfl) | (apply p_nes <;> rfl) | (apply p_eq <;> rfl) | (apply p_lt <;> rfl) | (apply p_gt <;> rfl) | (apply p_ne <;> rfl) | (apply p_assign <;> rfl) | (apply p_pickT <;> rfl) | (apply p_pickF <;> rfl) | (apply p_not <;> rfl) | (apply p_fieldAddrB <;> rfl) | (apply p_neS <;> rfl) | fail); (case hd => rfl)) | (apply v_condT; (case hc => rfl)) | (apply v_condF; (case hc => rfl)) | (apply v_cond; (case hc => rfl); all_goals (intro h; (try simp only [reduceCtorEq, dec_true, dec_false, decide_eq_true_eq, decide_eq_false_iff_not, Bool.not_eq_true', Bool.not_eq_false', Option.isNone_iff_eq_none, beq_true, beq_false, beq_iff_eq, beq_eq_false_iff_ne, ne_eq, decide_eq_decide, Bool.not_eq_true, Bool.not_eq_false, Decidable.not_not] at h); first | (exfalso; omega) | skip)) | (apply v_guardB; (case h1 => rfl); (case h2 => rfl); all_goals (intro h; (try simp only [reduceCtorEq, dec_true, dec_false, decide_eq_true_eq, decide_eq_false_iff_not, Bool.not_eq_true', Bool.not_eq_false', Option.isNone_iff_eq_none, beq_true, beq_false, beq_iff_eq, beq_eq_false_iff_ne, ne_eq, decide_eq_decide, Bool.not_eq_true, Bool.not_eq_false, Decidable.not_not] at h); first | (exfalso; omega) | skip)) | (apply v_box (zs := Cm.cells ⟨_, client, seq, key, val, old, node⟩); (case hx => rfl); (case hz => rfl); (case hd => rfl); intro cb) | (apply v_callJ (hs := qw); (case ha => rfl); (case hd => rfl)) | (apply v_callJ (hs := qm); (case ha => rfl); (case hd => rfl)) | (apply v_callJ (hs := qk); (case ha => rfl); (case hd => rfl)) | (apply v_callJ (hs := qv); (case ha => rfl); (case hd => rfl)) | (apply v_callJ (hs := qo); (case ha => rfl); (case hd => rfl)) | (apply v_read; (case hop => first | (apply r_load1; rfl; (apply Cell.own; (case h => (repeat (first | exact List.Mem.head _ | fail))); rfl)) | fail); (case hd => rfl)) | fail)
  all_goals
    (refine v_ret [] (outsA1 rfl rfl) (by repeat (first | exact List.nil_sublist _ | fail)) ?_
     refine ⟨?_, rfl⟩
     rw [cmdI_eq]
     congr 1
     unfold cmdE
     try simp only [nil_iff] at *
     try simp only
     (repeat' split) <;> first | rfl | (exfalso; omega) | (exfalso; simp_all; done) | (exfalso; simp_all; omega))
end Go.Proofs.YtnoiahlpmgbhfaaDoor
/-
  recone (layer 16), the first part: ballots, and what is wrong with a record.
-/
set_option linter.unusedSimpArgs false
set_option linter.unusedVariables false
namespace Go.Proofs.YtnoiahlpmgbhfaaDoor
open Go.Vx Go.ChangeShapes Go.WideShapes Go.ChangeAt Go.RowKit
/-! ### Equal structs -/
theorem eqBal {σ : Env} {ty t' : TypeId} {x y : Operand} {a b a' b' : Int} (hx : Env.ev σ x = some (.agg [.int .i64 a, .int .i64 b].toArray)) (hy : Env.ev σ y = some (.agg [.int .i64 a', .int .i64 b'].toArray)) : PureOp Tryd.prog (.binOp .eql 25 x y t') ty σ (.bool (dec (a = a' ∧ b = b'))) := by
  have := p_eqStruct (P := Tryd.prog) (ty := ty) (t := 25) (t' := t') hx hy (feq_int (k := .i64) (a := a) (b := a') (bytes := 8) (zero := .int .i64 0) (sz := 1) rfl rfl rfl (feq_int (k := .i64) (a := b) (b := b') (bytes := 8) (zero := .int .i64 0) (sz := 1) rfl rfl rfl feq_nil))
  have e : (dec (a = a') && (dec (b = b') && true)) = dec (a = a' ∧ b = b') := by simp only [dec_eq]; simp
  rwa [e] at this
theorem neBal {σ : Env} {ty t' : TypeId} {x y : Operand} {a b a' b' : Int} (hx : Env.ev σ x = some (.agg [.int .i64 a, .int .i64 b].toArray)) (hy : Env.ev σ y = some (.agg [.int .i64 a', .int .i64 b'].toArray)) : PureOp Tryd.prog (.binOp .neq 25 x y t') ty σ (.bool (!dec (a = a' ∧ b = b'))) := by
  have := p_neStruct (P := Tryd.prog) (ty := ty) (t := 25) (t' := t') hx hy (feq_int (k := .i64) (a := a) (b := a') (bytes := 8) (zero := .int .i64 0) (sz := 1) rfl rfl rfl (feq_int (k := .i64) (a := b) (b := b') (bytes := 8) (zero := .int .i64 0) (sz := 1) rfl rfl rfl feq_nil))
  have e : (dec (a = a') && (dec (b = b') && true)) = dec (a = a' ∧ b = b') := by simp only [dec_eq]; simp
  rwa [e] at this
noncomputable instance : DecidableEq Cm := fun a b => Classical.propDecidable (a = b)
theorem cm_feq (c c' : Cm) : FEq Tryd.prog 9999 c.cells c'.cells [⟨"Kind", 3, 0, false, "", "", 0⟩, ⟨"Client", 3, 1, false, "", "", 8⟩, ⟨"Seq", 3, 2, false, "", "", 16⟩, ⟨"Key", 9, 3, false, "", "", 24⟩, ⟨"Val", 9, 4, false, "", "", 40⟩, ⟨"Old", 9, 5, false, "", "", 56⟩, ⟨"Node", 3, 6, false, "", "", 72⟩] (dec (c.kind = c'.kind) && (dec (c.client = c'.client) && (dec (c.seq = c'.seq) && (dec (c.key = c'.key) && (dec (c.val = c'.val) && (dec (c.old = c'.old) && (dec (c.node = c'.node) && true))))))) :=
  feq_int (k := .i64) (bytes := 8) (zero := .int .i64 0) (sz := 1) (nm := "Kind") (ft := 3) (off := 0) (em := false) (tg := "") (pk := "") (bo := 0) rfl rfl rfl
    (feq_int (k := .i64) (bytes := 8) (zero := .int .i64 0) (sz := 1) (nm := "Client") (ft := 3) (off := 1) (em := false) (tg := "") (pk := "") (bo := 8) rfl rfl rfl
    (feq_int (k := .i64) (bytes := 8) (zero := .int .i64 0) (sz := 1) (nm := "Seq") (ft := 3) (off := 2) (em := false) (tg := "") (pk := "") (bo := 16) rfl rfl rfl
    (feq_str (bytes := 16) (zero := .string ByteArray.empty) (sz := 1) (nm := "Key") (ft := 9) (off := 3) (em := false) (tg := "") (pk := "") (bo := 24) rfl rfl rfl
    (feq_str (bytes := 16) (zero := .string ByteArray.empty) (sz := 1) (nm := "Val") (ft := 9) (off := 4) (em := false) (tg := "") (pk := "") (bo := 40) rfl rfl rfl
    (feq_str (bytes := 16) (zero := .string ByteArray.empty) (sz := 1) (nm := "Old") (ft := 9) (off := 5) (em := false) (tg := "") (pk := "") (bo := 56) rfl rfl rfl
    (feq_int (k := .i64) (bytes := 8) (zero := .int .i64 0) (sz := 1) (nm := "Node") (ft := 3) (off := 6) (em := false) (tg := "") (pk := "") (bo := 72) rfl rfl rfl feq_nil))))))
theorem cm_dec (c c' : Cm) : (dec (c.kind = c'.kind) && (dec (c.client = c'.client) && (dec (c.seq = c'.seq) && (dec (c.key = c'.key) && (dec (c.val = c'.val) && (dec (c.old = c'.old) && (dec (c.node = c'.node) && true))))))) = dec (c = c') := by
  obtain ⟨a1, a2, a3, a4, a5, a6, a7⟩ := c
  obtain ⟨b1, b2, b3, b4, b5, b6, b7⟩ := c'
  rw [Bool.eq_iff_iff]
  simp [dec_true]
theorem neCm {σ : Env} {ty t' : TypeId} {x y : Operand} {c c' : Cm} (hx : Env.ev σ x = some (.agg c.cells.toArray)) (hy : Env.ev σ y = some (.agg c'.cells.toArray)) : PureOp Tryd.prog (.binOp .neq 27 x y t') ty σ (.bool (!dec (c = c'))) := by
  have := p_neStruct (P := Tryd.prog) (ty := ty) (t := 27) (t' := t') hx hy (cm_feq c c')
  rwa [cm_dec] at this
/-! ### Ballots -/
def mayP (r n : Int) : Prop := (r = 0 ∧ n = 0) ∨ (1 ≤ r ∧ r ≤ 4294967296 ∧ 1 ≤ n ∧ n ≤ 9)
instance (r n : Int) : Decidable (mayP r n) := by unfold mayP; infer_instance
theorem node_s (G : GH) (n : Int) : Con Tryd.prog 125 #[.int .i64 n] G [] (Just (.bool (decide (1 ≤ n ∧ n ≤ 9))) G) := by
  refine v_enter Tryd.func125 rfl Tryd.ntmps125 rfl (fun B => ?_)
  repeat' (first | apply v_seq | apply v_region | apply v_nil | (apply v_take; (case hg => rfl)) | (apply v_pass; (case hg => rfl); (case hn => rfl); (case hd => rfl)) | (apply v_pure; (case hop => first | (apply p_move <;> rfl) | (apply p_le <;> rfl) | (apply p_ge <;> rfl) | (apply p_assign <;> rfl) | (apply p_pickT <;> rfl) | (apply p_pickF <;> rfl) | fail); (case hd => rfl)) | (apply v_guardB; (case h1 => rfl); (case h2 => rfl); all_goals (intro h; (try simp only [reduceCtorEq, dec_true, dec_false, decide_eq_true_eq, decide_eq_false_iff_not, Bool.not_eq_true', Bool.not_eq_false', Option.isNone_iff_eq_none, beq_true, beq_false, beq_iff_eq, beq_eq_false_iff_ne, ne_eq, decide_eq_decide, Bool.not_eq_true, Bool.not_eq_false, Decidable.not_not] at h); first | skip)) | fail)
  all_goals
    (refine v_ret [] (outsA1 rfl rfl) (by repeat (first | exact List.Sublist.refl _ | fail)) ?_
     refine ⟨?_, rfl, rfl⟩
     first
       | (rw [decide_eq_false (by omega)])
       | (by_cases h5 : n ≤ 9
          · rw [dec_pos h5, decide_eq_true (by omega)]
          · rw [dec_neg h5, decide_eq_false (by omega)]))
theorem may_s (G : GH) (r n : Int) : Con Tryd.prog 80 #[.agg #[.int .i64 r, .int .i64 n]] G [] (Just (.bool (decide (mayP r n))) G) := by
  apply Con.just
  refine v_enter Tryd.func80 rfl Tryd.ntmps80 rfl (fun B => ?_)
  repeat' (first | (apply v_pure; (case hop => (apply eqBal; (case hx => rfl); (case hy => rfl))); (case hd => rfl)) | apply v_seq | apply v_region | apply v_nil | (apply v_take; (case hg => rfl)) | (apply v_pass; (case hg => rfl); (case hn => rfl); (case hd => rfl)) | (apply v_passN; (case hg => rfl); (case hn => rfl); (case hd => rfl)) | (apply v_pure; (case hop => first | (apply p_move <;> rfl) | (apply p_le <;> rfl) | (apply p_ge <;> rfl) | (apply p_assign <;> rfl) | (apply p_pickT <;> rfl) | (apply p_pickF <;> rfl) | (apply p_fieldAddrB <;> rfl) | (apply p_build; (case hz => rfl); (case hv => (simp only [List.map_cons, List.map_nil]; repeat (first | with_reducible exact evs_nil | fail))); (case hb => (apply bldL; repeat (first | exact bld_nil | fail)))) | fail); (case hd => rfl)) | (apply v_guardB; (case h1 => rfl); (case h2 => rfl); all_goals (intro h; (try simp only [reduceCtorEq, dec_true, dec_false, decide_eq_true_eq, decide_eq_false_iff_not, Bool.not_eq_true', Bool.not_eq_false', Option.isNone_iff_eq_none, beq_true, beq_false, beq_iff_eq, beq_eq_false_iff_ne, ne_eq, decide_eq_decide, Bool.not_eq_true, Bool.not_eq_false, Decidable.not_not] at h); first | skip)) | (apply v_callJ (hs := node_s _ _); (case ha => rfl); (case hd => rfl)) | (apply v_read; (case hop => first | (apply r_loadNo; (case hx => rfl); (case h => (repeat (first | exact List.Mem.head _ | fail))); (case hd => (repeat (first | with_reducible exact dt_nil | apply dt_here | fail))); (case hn => rfl)) | (apply r_load1; rfl; (apply Cell.own; (case h => (repeat (first | exact List.Mem.head _ | fail))); rfl)) | fail); (case hd => rfl)) | (apply v_box; (case hx => rfl); (case hz => rfl); (case hd => rfl); intro b) | fail)
  all_goals
    (refine v_ret [] (outsA1 rfl rfl) (by repeat (first | exact List.nil_sublist _ | fail)) ?_
     refine ⟨?_, rfl⟩
     first
       | (rw [decide_eq_true (p := mayP r n) (by unfold mayP; omega)]; done)
       | (rw [decide_eq_false (p := mayP r n) (by unfold mayP; omega)]; done)
       | (rw [decide_eq_decide.2]; unfold mayP; omega)
       | (congr 1; rw [decide_eq_decide]; unfold mayP; omega))
theorem refMay_s (G : GH) (r n : Int) : Con Tryd.prog 65 #[.agg #[.int .i64 r, .int .i64 n]] G [] (Just (.bool (decide (mayP r n))) G) := by
  apply Con.just
  refine v_enter Tryd.func65 rfl Tryd.ntmps65 rfl (fun B => ?_)
  repeat' (first | apply v_seq | apply v_region | apply v_nil | apply v_skip | (apply v_take; (case hg => rfl)) | (apply v_pass; (case hg => rfl); (case hn => rfl); (case hd => rfl)) | (apply v_pure; (case hop => first | (apply p_move <;> rfl) | (apply p_eq <;> rfl) | (apply p_le <;> rfl) | (apply p_ge <;> rfl) | (apply p_assign <;> rfl) | (apply p_pickT <;> rfl) | (apply p_pickF <;> rfl) | (apply p_fieldAddrB <;> rfl) | fail); (case hd => rfl)) | (apply v_condF; (case hc => rfl)) | (apply v_cond; (case hc => rfl); all_goals (intro h; (try simp only [reduceCtorEq, dec_true, dec_false, decide_eq_true_eq, decide_eq_false_iff_not, Bool.not_eq_true', Bool.not_eq_false', Option.isNone_iff_eq_none, beq_true, beq_false, beq_iff_eq, beq_eq_false_iff_ne, ne_eq, decide_eq_decide, Bool.not_eq_true, Bool.not_eq_false, Decidable.not_not] at h); first | skip)) | (apply v_guardB; (case h1 => rfl); (case h2 => rfl); all_goals (intro h; (try simp only [reduceCtorEq, dec_true, dec_false, decide_eq_true_eq, decide_eq_false_iff_not, Bool.not_eq_true', Bool.not_eq_false', Option.isNone_iff_eq_none, beq_true, beq_false, beq_iff_eq, beq_eq_false_iff_ne, ne_eq, decide_eq_decide, Bool.not_eq_true, Bool.not_eq_false, Decidable.not_not] at h); first | (exfalso; omega) | skip)) | (apply v_read; (case hop => first | (apply r_load1; rfl; (apply Cell.own; (case h => (repeat (first | exact List.Mem.head _ | fail))); rfl)) | fail); (case hd => rfl)) | (apply v_box; (case hx => rfl); (case hz => rfl); (case hd => rfl); intro b) | fail)
  all_goals
    (refine v_ret [] (outsA1 rfl rfl) (by repeat (first | exact List.nil_sublist _ | fail)) ?_
     refine ⟨?_, rfl⟩
     first
       | (rw [decide_eq_true (p := mayP r n) (by unfold mayP; omega)]; done)
       | (rw [decide_eq_false (p := mayP r n) (by unfold mayP; omega)]; done)
       | (rw [dec_eq]; congr 1; rw [decide_eq_decide]; unfold mayP; omega))
end Go.Proofs.YtnoiahlpmgbhfaaDoor
/-
  recone (layer 16), the second part: what is wrong with a record.
-/
set_option linter.unusedSimpArgs false
set_option linter.unusedVariables false
namespace Go.Proofs.YtnoiahlpmgbhfaaDoor
open Go.Vx Go.ChangeShapes Go.WideShapes Go.ChangeAt Go.RowKit
/-- A record, but for its image's bytes. -/
def recL (k r n i : Int) (c : Cm) (iv : Value) : List Value := [.int .i64 k, .int .i64 r, .int .i64 n, .int .i64 i, .int .i64 c.kind, .int .i64 c.client, .int .i64 c.seq, .string c.key, .string c.val, .string c.old, .int .i64 c.node, iv]
def hasL (k : Int) : List Value :=
  if k = 1 then [.bool true, .bool false, .bool false, .bool false] else if k = 2 then [.bool true, .bool true, .bool true, .bool false]
  else if k = 3 then [.bool false, .bool true, .bool true, .bool false] else if k = 4 then [.bool false, .bool true, .bool false, .bool true]
  else [.bool false, .bool false, .bool false, .bool false]
theorem rfields_s (G : GH) (k : Int) : Con Tryd.prog 52 #[.int .i64 k] G [] (Just (.tuple [.agg (hasL k).toArray, .bool (decide (1 ≤ k ∧ k ≤ 4))].toArray) G) := by
  apply Con.just
  refine v_enter Tryd.func52 rfl Tryd.ntmps52 rfl (fun B => ?_)
  repeat' (first | apply v_seq | apply v_region | apply v_nil | apply v_skip | apply v_block | apply v_blk | (apply v_exit; (case hp => rfl)) | (apply v_pure; (case hop => first | (apply p_move <;> rfl) | (apply p_eq <;> rfl) | (apply p_assign <;> rfl) | (apply p_fieldAddrB <;> rfl) | fail); (case hd => rfl)) | (apply v_cond; (case hc => rfl); all_goals (intro h; (try simp only [reduceCtorEq, dec_true, dec_false, decide_eq_true_eq, decide_eq_false_iff_not, Bool.not_eq_true', Bool.not_eq_false', Option.isNone_iff_eq_none, beq_true, beq_false, beq_iff_eq, beq_eq_false_iff_ne, ne_eq, decide_eq_decide, Bool.not_eq_true, Bool.not_eq_false, Decidable.not_not] at h); first | skip)) | (apply v_read; (case hop => first | (apply r_loadNo; (case hx => rfl); (case h => (repeat (first | exact List.Mem.head _ | fail))); (case hd => (repeat (first | with_reducible exact dt_nil | apply dt_here | fail))); (case hn => rfl)) | fail); (case hd => rfl)) | (apply v_alloc; (case hz => rfl); (case hd => rfl); intro b) | (apply v_store; (case hp => rfl); (case hx => rfl); (case hc => rfl); (case hsz => rfl); (case h1 => rfl); (case hb => (repeat (first | exact List.Mem.head _ | apply List.Mem.tail | fail))); (case hfit => first | exact Nat.le_of_ble_eq_true rfl | fail); (case hov => (first | ((repeat (first | with_reducible exact ov_nil | apply ov_cons | fail)); done) | fail)); (case hu => repeat (first | exact Upd.here _ _ | apply Upd.there | fail))) | fail)
  all_goals
    (refine v_retM [] (outsM_cell_tmp (vs := hasL k) (e := 81) rfl rfl rfl ?_ ?_) (by repeat (first | exact List.nil_sublist _ | fail)) ?_
     · unfold hasL
       first
         | (rw [if_pos (show k = 1 by omega)]; (repeat (first | exact List.Mem.head _ | apply List.Mem.tail)))
         | (rw [if_neg (show ¬ k = 1 by omega), if_pos (show k = 2 by omega)]; (repeat (first | exact List.Mem.head _ | apply List.Mem.tail)))
         | (rw [if_neg (show ¬ k = 1 by omega), if_neg (show ¬ k = 2 by omega), if_pos (show k = 3 by omega)]; (repeat (first | exact List.Mem.head _ | apply List.Mem.tail)))
         | (rw [if_neg (show ¬ k = 1 by omega), if_neg (show ¬ k = 2 by omega), if_neg (show ¬ k = 3 by omega), if_pos (show k = 4 by omega)]; (repeat (first | exact List.Mem.head _ | apply List.Mem.tail)))
         | (rw [if_neg (show ¬ k = 1 by omega), if_neg (show ¬ k = 2 by omega), if_neg (show ¬ k = 3 by omega), if_neg (show ¬ k = 4 by omega)]; (repeat (first | exact List.Mem.head _ | apply List.Mem.tail)))
     · unfold hasL; (repeat' split) <;> rfl
     · refine ⟨?_, rfl⟩
       first
         | rw [decide_eq_true (by omega)]
         | rw [decide_eq_false (by omega)])
def ranP (k r n i : Int) : Prop := ((k = 1 ∨ k = 2) → mayP r n ∧ ¬ (r = 0 ∧ n = 0)) ∧ ((k = 2 ∨ k = 3 ∨ k = 4) → 1 ≤ i ∧ i ≤ 4294967296)
instance (k r n i : Int) : Decidable (ranP k r n i) := by unfold ranP; infer_instance
theorem ranges_s (G : GH) (k r n i : Int) (c : Cm) (iv : Value) (hk : 1 ≤ k ∧ k ≤ 4) : Con Tryd.prog 100 #[.agg (recL k r n i c iv).toArray, .agg (hasL k).toArray] G [] (Just (.bool (decide (ranP k r n i))) G) := by
  apply Con.just
  refine v_enter Tryd.func100 rfl Tryd.ntmps100 rfl (fun B => ?_)
  obtain rfl | rfl | rfl | rfl : k = 1 ∨ k = 2 ∨ k = 3 ∨ k = 4 := by omega
  all_goals
    repeat' (first | (apply v_pure; (case hop => (apply eqBal; (case hx => rfl); (case hy => rfl))); (case hd => rfl)) | apply v_seq | apply v_region | apply v_nil | apply v_skip | (apply v_take; (case hg => rfl)) | (apply v_pass; (case hg => rfl); (case hn => rfl); (case hd => rfl)) | (apply v_passN; (case hg => rfl); (case hn => rfl); (case hd => rfl)) | (apply v_pure; (case hop => first | (apply p_move <;> rfl) | (apply p_le <;> rfl) | (apply p_ge <;> rfl) | (apply p_assign <;> rfl) | (apply p_pickT <;> rfl) | (apply p_pickF <;> rfl) | (apply p_not <;> rfl) | (apply p_fieldAddrB <;> rfl) | (apply p_build; (case hz => rfl); (case hv => (simp only [List.map_cons, List.map_nil]; repeat (first | with_reducible exact evs_nil | fail))); (case hb => (apply bldL; repeat (first | exact bld_nil | fail)))) | fail); (case hd => rfl)) | (apply v_condT; (case hc => rfl)) | (apply v_condF; (case hc => rfl)) | (apply v_cond; (case hc => rfl); all_goals (intro h; (try simp only [reduceCtorEq, dec_true, dec_false, decide_eq_true_eq, decide_eq_false_iff_not, Bool.not_eq_true', Bool.not_eq_false', Option.isNone_iff_eq_none, beq_true, beq_false, beq_iff_eq, beq_eq_false_iff_ne, ne_eq, decide_eq_decide, Bool.not_eq_true, Bool.not_eq_false, Decidable.not_not] at h); first | skip)) | (apply v_guardB; (case h1 => rfl); (case h2 => rfl); all_goals (intro h; (try simp only [reduceCtorEq, dec_true, dec_false, decide_eq_true_eq, decide_eq_false_iff_not, Bool.not_eq_true', Bool.not_eq_false', Option.isNone_iff_eq_none, beq_true, beq_false, beq_iff_eq, beq_eq_false_iff_ne, ne_eq, decide_eq_decide, Bool.not_eq_true, Bool.not_eq_false, Decidable.not_not] at h); first | skip)) | (apply v_box (zs := recL _ r n i c iv); (case hx => rfl); (case hz => rfl); (case hd => rfl); intro b) | (apply v_box (zs := hasL _); (case hx => rfl); (case hz => rfl); (case hd => rfl); intro b) | (apply v_callJ (hs := may_s _ _ _); (case ha => rfl); (case hd => rfl)) | (apply v_read; (case hop => first | (apply r_loadNo; (case hx => rfl); (case h => (repeat (first | exact List.Mem.head _ | apply List.Mem.tail | fail))); (case hd => (repeat (first | with_reducible exact dt_nil | apply dt_here | fail))); (case hn => rfl)) | (apply r_load1; rfl; (apply Cell.own; (case h => (repeat (first | exact List.Mem.head _ | apply List.Mem.tail | fail))); rfl)) | fail); (case hd => rfl)) | fail)
  all_goals
    (refine v_ret [] (outsA1 rfl rfl) (by repeat (first | exact List.nil_sublist _ | fail)) ?_
     refine ⟨?_, rfl⟩
     first
       | (rw [decide_eq_true (p := ranP _ r n i) (by unfold mayP at *; unfold ranP mayP; omega)]; done)
       | (rw [decide_eq_false (p := ranP _ r n i) (by unfold mayP at *; unfold ranP mayP; omega)]; done)
       | (rw [decide_eq_true (p := ranP _ r n i) (by unfold ranP mayP; omega)]; done)
       | (rw [decide_eq_false (p := ranP _ r n i) (by unfold ranP mayP; omega)]; done)
       | (rw [dec_eq]; congr 1; rw [decide_eq_decide]; unfold mayP at *; unfold ranP mayP; omega)
       | (rw [dec_eq]; congr 1; rw [decide_eq_decide]; unfold ranP mayP; omega))
def zeroCm : Cm := ⟨0, 0, 0, ByteArray.empty, ByteArray.empty, ByteArray.empty, 0⟩
def othP (k r n i : Int) (c : Cm) (len : Nat) : Prop := (¬ (k = 1 ∨ k = 2) ∧ ¬ (r = 0 ∧ n = 0)) ∨ (k = 1 ∧ i ≠ 0) ∨ (¬ (k = 2 ∨ k = 3) ∧ c ≠ zeroCm) ∨ ¬ (k = 4 ↔ 0 < len)
noncomputable instance (k r n i : Int) (c : Cm) (len : Nat) : Decidable (othP k r n i c len) := Classical.propDecidable _
theorem others_s (G : GH) (k r n i : Int) (c : Cm) (A : Option Addr) (len cap : Nat) (hl : len ≤ 9223372036854775807) (hk : 1 ≤ k ∧ k ≤ 4) : Con Tryd.prog 102 #[.agg (recL k r n i c (.slice A len cap)).toArray, .agg (hasL k).toArray] G [] (Just (.bool (decide (othP k r n i c len))) G) := by
  apply Con.just
  refine v_enter Tryd.func102 rfl Tryd.ntmps102 rfl (fun B => ?_)
  obtain rfl | rfl | rfl | rfl : k = 1 ∨ k = 2 ∨ k = 3 ∨ k = 4 := by omega
  all_goals
    repeat' (first | (apply v_pure; (case hop => (apply neCm (c := c) (c' := zeroCm); (case hx => rfl); (case hy => rfl))); (case hd => rfl)) | apply v_seq | apply v_region | apply v_nil | apply v_skip | apply v_block | apply v_blk | (apply v_take; (case hg => rfl)) | (apply v_pass; (case hg => rfl); (case hn => rfl); (case hd => rfl)) | (apply v_pure; (case hop => first | (apply p_move <;> rfl) | (apply p_gt <;> rfl) | (apply p_ne <;> rfl) | (apply p_assign <;> rfl) | (apply p_pickT <;> rfl) | (apply p_pickF <;> rfl) | (apply p_not <;> rfl) | (apply p_lenSlice <;> rfl) | (apply p_fieldAddrB <;> rfl) | (apply p_neB <;> rfl) | (apply p_build; (case hz => rfl); (case hv => (simp only [List.map_cons, List.map_nil]; repeat (first | with_reducible exact evs_nil | fail))); (case hb => (apply bldL; repeat (first | exact bld_nil | fail)))) | fail); (case hd => rfl)) | (apply v_condF; (case hc => rfl)) | (apply v_cond; (case hc => rfl); all_goals (intro h; (try simp only [reduceCtorEq, dec_true, dec_false, decide_eq_true_eq, decide_eq_false_iff_not, Bool.not_eq_true', Bool.not_eq_false', Option.isNone_iff_eq_none, beq_true, beq_false, beq_iff_eq, beq_eq_false_iff_ne, ne_eq, decide_eq_decide, Bool.not_eq_true, Bool.not_eq_false, Decidable.not_not] at h); first | (exfalso; omega) | skip)) | (apply v_pure; (case hop => (apply neBal; (case hx => rfl); (case hy => rfl))); (case hd => rfl)) | (apply v_box (zs := recL _ r n i c (.slice A len cap)); (case hx => rfl); (case hz => rfl); (case hd => rfl); intro b) | (apply v_box (zs := hasL _); (case hx => rfl); (case hz => rfl); (case hd => rfl); intro b) | (apply v_read; (case hop => first | (apply r_loadNo; (case hx => rfl); (case h => (repeat (first | exact List.Mem.head _ | apply List.Mem.tail | fail))); (case hd => (repeat (first | with_reducible exact dt_nil | apply dt_here | fail))); (case hn => rfl)) | (apply r_load1; rfl; (apply Cell.own; (case h => (repeat (first | exact List.Mem.head _ | apply List.Mem.tail | fail))); rfl)) | fail); (case hd => rfl)) | fail)
  all_goals
    (refine v_ret [] (outsA1 rfl rfl) (by repeat (first | exact List.nil_sublist _ | fail)) ?_
     refine ⟨?_, rfl⟩
     first | (simp [othP, dec_eq, *]; done) | (simp [othP, dec_eq, *]; grind))
noncomputable def recI (k r n i : Int) (c : Cm) (len : Nat) : Int :=
  if k < 1 ∨ 4 < k then 5 else if ¬ ranP k r n i then 6 else if k = 4 ∧ 32768 < len then 2 else if (k = 2 ∨ k = 3) ∧ cmdI c ≠ 0 then cmdI c else if othP k r n i c len then 3 else 0
theorem recCheck_s {G : GH} (hT : TabsG G) (k r n i : Int) (c : Cm) (hc : c.ok) (A : Option Addr) (len cap : Nat) (hl : len ≤ 9223372036854775807) : Con Tryd.prog 61 #[.agg (recL k r n i c (.slice A len cap)).toArray] G [] (Just (.int .i64 (recI k r n i c len)) G) := by
  have qc := Con.just (cmdCheck_s hT c hc)
  have qf := rfields_s G k
  apply Con.just
  refine v_enter Tryd.func61 rfl Tryd.ntmps61 rfl (fun B => ?_)
  by_cases hk : 1 ≤ k ∧ k ≤ 4
  · rw [decide_eq_true hk] at qf
    have qr := ranges_s G k r n i c (.slice A len cap) hk
    have qo := others_s G k r n i c A len cap hl hk
    obtain rfl | rfl | rfl | rfl : k = 1 ∨ k = 2 ∨ k = 3 ∨ k = 4 := by omega
    all_goals
      repeat' (first | apply v_seq | apply v_region | apply v_nil | apply v_skip | apply v_block | apply v_blk | (apply v_take; (case hg => rfl)) | (apply v_pass; (case hg => rfl); (case hn => rfl); (case hd => rfl)) | (apply v_pure; (case hop => first | (apply p_move <;> rfl) | (apply p_gt <;> rfl) | (apply p_ne <;> rfl) | (apply p_assign <;> rfl) | (apply p_pickT <;> rfl) | (apply p_pickF <;> rfl) | (apply p_not <;> rfl) | (apply p_lenSlice <;> rfl) | (apply p_fieldAddrB <;> rfl) | (apply p_extract0 <;> rfl) | (apply p_extract1 <;> rfl) | fail); (case hd => rfl)) | (apply v_condT; (case hc => rfl)) | (apply v_condF; (case hc => rfl)) | (apply v_cond; (case hc => rfl); all_goals (intro h; (try simp only [reduceCtorEq, dec_true, dec_false, decide_eq_true_eq, decide_eq_false_iff_not, Bool.not_eq_true', Bool.not_eq_false', Option.isNone_iff_eq_none, beq_true, beq_false, beq_iff_eq, beq_eq_false_iff_ne, ne_eq, decide_eq_decide, Bool.not_eq_true, Bool.not_eq_false, Decidable.not_not] at h); first | skip)) | (apply v_box (zs := recL _ r n i c (.slice A len cap)); (case hx => rfl); (case hz => rfl); (case hd => rfl); intro b) | (apply v_callJ (hs := qf); (case ha => rfl); (case hd => rfl)) | (apply v_callJ (hs := qr); (case ha => rfl); (case hd => rfl)) | (apply v_callJ (hs := qo); (case ha => rfl); (case hd => rfl)) | (apply v_callJ (hs := qc); (case ha => rfl); (case hd => rfl)) | (apply v_read; (case hop => first | (apply r_loadNo; (case hx => rfl); (case h => (repeat (first | exact List.Mem.head _ | apply List.Mem.tail | fail))); (case hd => (repeat (first | with_reducible exact dt_nil | apply dt_here | fail))); (case hn => rfl)) | (apply r_load1; rfl; (apply Cell.own; (case h => (repeat (first | exact List.Mem.head _ | apply List.Mem.tail | fail))); rfl)) | fail); (case hd => rfl)) | (apply v_alloc; (case hz => rfl); (case hd => rfl); intro b) | (apply v_store; (case hp => rfl); (case hx => rfl); (case hc => rfl); (case hsz => rfl); (case h1 => rfl); (case hb => (repeat (first | exact List.Mem.head _ | fail))); (case hfit => first | exact Nat.le_of_ble_eq_true rfl | fail); (case hov => (first | ((repeat (first | with_reducible exact ov_nil | apply ov_cons | fail)); done) | fail)); (case hu => repeat (first | exact Upd.here _ _ | fail))) | fail)
    all_goals
      (refine v_ret [] (outsA1 rfl rfl) (by repeat (first | exact List.nil_sublist _ | fail)) ?_
       refine ⟨?_, rfl⟩
       first | (simp [recI, *]; done) | (simp [recI, *]; omega))
  · have e : hasL k = [.bool false, .bool false, .bool false, .bool false] := by unfold hasL; rw [if_neg (by omega), if_neg (by omega), if_neg (by omega), if_neg (by omega)]
    rw [decide_eq_false hk, e] at qf
    repeat' (first | apply v_seq | apply v_region | apply v_nil | apply v_block | (apply v_pure; (case hop => first | (apply p_move <;> rfl) | (apply p_assign <;> rfl) | (apply p_not <;> rfl) | (apply p_fieldAddrB <;> rfl) | (apply p_extract0 <;> rfl) | (apply p_extract1 <;> rfl) | fail); (case hd => rfl)) | (apply v_condT; (case hc => rfl)) | (apply v_box (zs := recL _ r n i c (.slice A len cap)); (case hx => rfl); (case hz => rfl); (case hd => rfl); intro b) | (apply v_callJ (hs := qf); (case ha => rfl); (case hd => rfl)) | (apply v_read; (case hop => first | (apply r_load1; rfl; (apply Cell.own; (case h => (repeat (first | exact List.Mem.head _ | fail))); rfl)) | fail); (case hd => rfl)) | (apply v_alloc; (case hz => rfl); (case hd => rfl); intro b) | (apply v_store; (case hp => rfl); (case hx => rfl); (case hc => rfl); (case hsz => rfl); (case h1 => rfl); (case hb => (repeat (first | exact List.Mem.head _ | fail))); (case hfit => first | exact Nat.le_of_ble_eq_true rfl | fail); (case hov => (first | ((repeat (first | with_reducible exact ov_nil | apply ov_cons | fail)); done) | fail)); (case hu => repeat (first | exact Upd.here _ _ | fail))) | fail)
    refine v_ret [] (outsA1 rfl rfl) (by repeat (first | exact List.nil_sublist _ | fail)) ?_
    refine ⟨?_, rfl⟩
    rw [recI, if_pos (by omega)]
end Go.Proofs.YtnoiahlpmgbhfaaDoor
/-
  recone (layer 16), the third part: the reference says the same.
-/
set_option linter.unusedSimpArgs false
set_option linter.unusedVariables false
namespace Go.Proofs.YtnoiahlpmgbhfaaDoor
open Go.Vx Go.ChangeShapes Go.WideShapes Go.ChangeAt Go.RowKit
theorem hasBallot_s (G : GH) (k : Int) : Con Tryd.prog 63 #[.int .i64 k] G [] (Just (.bool (decide (k = 1 ∨ k = 2))) G) := by
  refine v_enter Tryd.func63 rfl Tryd.ntmps63 rfl (fun B => ?_)
  repeat' (first | apply v_seq | apply v_region | apply v_nil | (apply v_take; (case hg => rfl)) | (apply v_pass; (case hg => rfl); (case hn => rfl); (case hd => rfl)) | (apply v_pure; (case hop => first | (apply p_move <;> rfl) | (apply p_eq <;> rfl) | (apply p_assign <;> rfl) | (apply p_pickT <;> rfl) | (apply p_pickF <;> rfl) | fail); (case hd => rfl)) | (apply v_guardB; (case h1 => rfl); (case h2 => rfl); all_goals (intro h; (try simp only [reduceCtorEq, dec_true, dec_false, decide_eq_true_eq, decide_eq_false_iff_not, Bool.not_eq_true', Bool.not_eq_false', Option.isNone_iff_eq_none, beq_true, beq_false, beq_iff_eq, beq_eq_false_iff_ne, ne_eq, decide_eq_decide, Bool.not_eq_true, Bool.not_eq_false, Decidable.not_not] at h); first | skip)) | fail)
  all_goals
    (refine v_ret [] (outsA1 rfl rfl) (by repeat (first | exact List.Sublist.refl _ | fail)) ?_
     refine ⟨?_, rfl, rfl⟩
     first | (simp [dec_eq, *]; done) | fail)
theorem hasIndex_s (G : GH) (k : Int) : Con Tryd.prog 66 #[.int .i64 k] G [] (Just (.bool (decide (k = 2 ∨ k = 3 ∨ k = 4))) G) := by
  refine v_enter Tryd.func66 rfl Tryd.ntmps66 rfl (fun B => ?_)
  repeat' (first | apply v_seq | apply v_region | apply v_nil | (apply v_take; (case hg => rfl)) | (apply v_pass; (case hg => rfl); (case hn => rfl); (case hd => rfl)) | (apply v_pure; (case hop => first | (apply p_move <;> rfl) | (apply p_eq <;> rfl) | (apply p_assign <;> rfl) | (apply p_pickT <;> rfl) | (apply p_pickF <;> rfl) | fail); (case hd => rfl)) | (apply v_guardB; (case h1 => rfl); (case h2 => rfl); all_goals (intro h; (try simp only [reduceCtorEq, dec_true, dec_false, decide_eq_true_eq, decide_eq_false_iff_not, Bool.not_eq_true', Bool.not_eq_false', Option.isNone_iff_eq_none, beq_true, beq_false, beq_iff_eq, beq_eq_false_iff_ne, ne_eq, decide_eq_decide, Bool.not_eq_true, Bool.not_eq_false, Decidable.not_not] at h); first | skip)) | fail)
  all_goals
    (refine v_ret [] (outsA1 rfl rfl) (by repeat (first | exact List.Sublist.refl _ | fail)) ?_
     refine ⟨?_, rfl, rfl⟩
     first | (simp [dec_eq, *]; done) | fail)
theorem hasCmd_s (G : GH) (k : Int) : Con Tryd.prog 57 #[.int .i64 k] G [] (Just (.bool (decide (k = 2 ∨ k = 3))) G) := by
  refine v_enter Tryd.func57 rfl Tryd.ntmps57 rfl (fun B => ?_)
  repeat' (first | apply v_seq | apply v_region | apply v_nil | (apply v_take; (case hg => rfl)) | (apply v_pass; (case hg => rfl); (case hn => rfl); (case hd => rfl)) | (apply v_pure; (case hop => first | (apply p_move <;> rfl) | (apply p_eq <;> rfl) | (apply p_assign <;> rfl) | (apply p_pickT <;> rfl) | (apply p_pickF <;> rfl) | fail); (case hd => rfl)) | (apply v_guardB; (case h1 => rfl); (case h2 => rfl); all_goals (intro h; (try simp only [reduceCtorEq, dec_true, dec_false, decide_eq_true_eq, decide_eq_false_iff_not, Bool.not_eq_true', Bool.not_eq_false', Option.isNone_iff_eq_none, beq_true, beq_false, beq_iff_eq, beq_eq_false_iff_ne, ne_eq, decide_eq_decide, Bool.not_eq_true, Bool.not_eq_false, Decidable.not_not] at h); first | skip)) | fail)
  all_goals
    (refine v_ret [] (outsA1 rfl rfl) (by repeat (first | exact List.Sublist.refl _ | fail)) ?_
     refine ⟨?_, rfl, rfl⟩
     first | (simp [dec_eq, *]; done) | fail)
set_option maxHeartbeats 4000000 in
theorem refRecCheck_s {G : GH} (k r n i : Int) (c : Cm) (hc : c.ok) (A : Option Addr) (len cap : Nat) (hl : len ≤ 9223372036854775807) : Con Tryd.prog 26 #[.agg (recL k r n i c (.slice A len cap)).toArray] G [] (Just (.int .i64 (recI k r n i c len)) G) := by
  have qc := Con.just (refCmdCheck_s (G := G) c hc)
  have qb := hasBallot_s G k
  have qi := hasIndex_s G k
  have qm := hasCmd_s G k
  apply Con.just
  refine v_enter Tryd.func26 rfl Tryd.ntmps26 rfl (fun B => ?_)
  by_cases hk : 1 ≤ k ∧ k ≤ 4
  · obtain rfl | rfl | rfl | rfl : k = 1 ∨ k = 2 ∨ k = 3 ∨ k = 4 := by omega
    all_goals
      (first | rw [decide_eq_true (by omega)] at qb | rw [decide_eq_false (by omega)] at qb)
      (first | rw [decide_eq_true (by omega)] at qi | rw [decide_eq_false (by omega)] at qi)
      (first | rw [decide_eq_true (by omega)] at qm | rw [decide_eq_false (by omega)] at qm)
      repeat' (first | (apply v_pure; (case hop => (apply neCm (c := c) (c' := zeroCm); (case hx => rfl); (case hy => rfl))); (case hd => rfl)) | apply v_seq | apply v_region | apply v_nil | apply v_skip | (apply v_take; (case hg => rfl)) | (apply v_pass; (case hg => rfl); (case hn => rfl); (case hd => rfl)) | (apply v_passN; (case hg => rfl); (case hn => rfl); (case hd => rfl)) | (apply v_pure; (case hop => first | (apply p_move <;> rfl) | (apply p_eqs <;> rfl) | (apply p_eq <;> rfl) | (apply p_lt <;> rfl) | (apply p_gt <;> rfl) | (apply p_ne <;> rfl) | (apply p_assign <;> rfl) | (apply p_pickT <;> rfl) | (apply p_pickF <;> rfl) | (apply p_not <;> rfl) | (apply p_lenSlice <;> rfl) | (apply p_fieldAddrB <;> rfl) | (apply p_neB <;> rfl) | (apply p_build; (case hz => rfl); (case hv => (simp only [List.map_cons, List.map_nil]; repeat (first | with_reducible exact evs_nil | fail))); (case hb => (apply bldL; repeat (first | exact bld_nil | fail)))) | fail); (case hd => rfl)) | (apply v_condT; (case hc => rfl)) | (apply v_condF; (case hc => rfl)) | (apply v_cond; (case hc => rfl); all_goals (intro h; (try simp only [reduceCtorEq, dec_true, dec_false, decide_eq_true_eq, decide_eq_false_iff_not, Bool.not_eq_true', Bool.not_eq_false', Option.isNone_iff_eq_none, beq_true, beq_false, beq_iff_eq, beq_eq_false_iff_ne, ne_eq, decide_eq_decide, Bool.not_eq_true, Bool.not_eq_false, Decidable.not_not] at h); first | (exfalso; omega) | skip)) | (apply v_guardB; (case h1 => rfl); (case h2 => rfl); all_goals (intro h; (try simp only [reduceCtorEq, dec_true, dec_false, decide_eq_true_eq, decide_eq_false_iff_not, Bool.not_eq_true', Bool.not_eq_false', Option.isNone_iff_eq_none, beq_true, beq_false, beq_iff_eq, beq_eq_false_iff_ne, ne_eq, decide_eq_decide, Bool.not_eq_true, Bool.not_eq_false, Decidable.not_not] at h); first | (exfalso; omega) | skip)) | (apply v_box (zs := recL _ r n i c (.slice A len cap)); (case hx => rfl); (case hz => rfl); (case hd => rfl); intro b) | (apply v_callJ (hs := qb); (case ha => rfl); (case hd => rfl)) | (apply v_callJ (hs := qi); (case ha => rfl); (case hd => rfl)) | (apply v_callJ (hs := qm); (case ha => rfl); (case hd => rfl)) | (apply v_callJ (hs := qc); (case ha => rfl); (case hd => rfl)) | (apply v_callJ (hs := refMay_s _ _ _); (case ha => rfl); (case hd => rfl)) | (apply v_read; (case hop => first | (apply r_loadNo; (case hx => rfl); (case h => (repeat (first | exact List.Mem.head _ | fail))); (case hd => (repeat (first | with_reducible exact dt_nil | apply dt_here | fail))); (case hn => rfl)) | (apply r_load1; rfl; (apply Cell.own; (case h => (repeat (first | exact List.Mem.head _ | fail))); rfl)) | fail); (case hd => rfl)) | fail)
    all_goals
      (refine v_ret [] (outsA1 rfl rfl) (by repeat (first | exact List.nil_sublist _ | fail)) ?_
       refine ⟨?_, rfl⟩
       clear qc qb qi qm hc
       congr 1
       (try simp only [dec_eq] at *)
       (try unfold mayP at *)
       unfold recI ranP othP mayP
       grind)
  · repeat' (first | apply v_seq | apply v_region | apply v_nil | (apply v_take; (case hg => rfl)) | (apply v_pass; (case hg => rfl); (case hn => rfl); (case hd => rfl)) | (apply v_pure; (case hop => first | (apply p_move <;> rfl) | (apply p_lt <;> rfl) | (apply p_gt <;> rfl) | (apply p_assign <;> rfl) | (apply p_pickT <;> rfl) | (apply p_pickF <;> rfl) | (apply p_fieldAddrB <;> rfl) | fail); (case hd => rfl)) | (apply v_condT; (case hc => rfl)) | (apply v_cond; (case hc => rfl); all_goals (intro h; (try simp only [reduceCtorEq, dec_true, dec_false, decide_eq_true_eq, decide_eq_false_iff_not, Bool.not_eq_true', Bool.not_eq_false', Option.isNone_iff_eq_none, beq_true, beq_false, beq_iff_eq, beq_eq_false_iff_ne, ne_eq, decide_eq_decide, Bool.not_eq_true, Bool.not_eq_false, Decidable.not_not] at h); first | (exfalso; omega) | skip)) | (apply v_guardB; (case h1 => rfl); (case h2 => rfl); all_goals (intro h; (try simp only [reduceCtorEq, dec_true, dec_false, decide_eq_true_eq, decide_eq_false_iff_not, Bool.not_eq_true', Bool.not_eq_false', Option.isNone_iff_eq_none, beq_true, beq_false, beq_iff_eq, beq_eq_false_iff_ne, ne_eq, decide_eq_decide, Bool.not_eq_true, Bool.not_eq_false, Decidable.not_not] at h); first | skip)) | (apply v_box (zs := recL _ r n i c (.slice A len cap)); (case hx => rfl); (case hz => rfl); (case hd => rfl); intro b) | (apply v_read; (case hop => first | (apply r_load1; rfl; (apply Cell.own; (case h => (repeat (first | exact List.Mem.head _ | fail))); rfl)) | fail); (case hd => rfl)) | fail)
    all_goals
      (refine v_ret [] (outsA1 rfl rfl) (by repeat (first | exact List.nil_sublist _ | fail)) ?_
       refine ⟨?_, rfl⟩
       rw [recI, if_pos (by omega)])
end Go.Proofs.YtnoiahlpmgbhfaaDoor
/-
  entry (layer 12), the first part: entries in cells; what may be, of one and of all.
-/
set_option linter.unusedSimpArgs false
set_option linter.unusedVariables false
namespace Go.Proofs.YtnoiahlpmgbhfaaDoor
open Go.Vx Go.ChangeShapes Go.WideShapes Go.ChangeAt Go.RowKit
/-- An entry. -/
structure Ent where
  index : Int
  round : Int
  node : Int
  cmd : Cm
noncomputable instance : DecidableEq Ent := fun a b => Classical.propDecidable (a = b)
def Ent.cells (x : Ent) : List Value := [.int .i64 x.index, .int .i64 x.round, .int .i64 x.node, .int .i64 x.cmd.kind, .int .i64 x.cmd.client, .int .i64 x.cmd.seq, .string x.cmd.key, .string x.cmd.val, .string x.cmd.old, .int .i64 x.cmd.node]
def Ent.ok (x : Ent) : Prop := (Lit.int .i64 x.index).wf = true ∧ (Lit.int .i64 x.round).wf = true ∧ (Lit.int .i64 x.node).wf = true ∧ x.cmd.ok
def EntR (x : Ent) (cs : List Value) : Prop := cs = x.cells ∧ x.ok
abbrev Es (G : GH) (v : Value) (l : List Ent) : Prop := Sl G 10 EntR v l
theorem adr_add (X : Addr) (a b : Nat) : (X.add a).add b = X.add (a + b) := by
  by_cases ha : a = 0 <;> by_cases hb : b = 0 <;> simp [Addr.add, ha, hb, Nat.add_assoc]
theorem cellsG_drop {G : GH} {X : Addr} {cs : List Value} (n : Nat) (h : CellsG G X cs) : CellsG G (X.add n) (cs.drop n) := by
  intro j u hu
  rw [adr_add]
  exact h _ _ (by simpa using hu)
theorem cellsG_take {G : GH} {X : Addr} {cs : List Value} (n : Nat) (h : CellsG G X cs) : CellsG G X (cs.take n) := by
  intro j u hu
  exact h _ _ (by rw [List.getElem?_take] at hu; split at hu; exact hu; cases hu)
theorem esOpen {G : GH} {v : Value} {l : List Ent} (h : Es G v l) : ∃ A c, v = .slice A l.length c ∧ l.length ≤ c ∧ c ≤ maxLen ∧ (0 < l.length → A.isSome = true) ∧
    (∀ i (h : i < l.length), CellsG G ((adr A).add (i * 10)) l[i].cells) ∧ (∀ i (h : i < l.length), CellsG G (((adr A).add (i * 10)).add 1) [.int .i64 l[i].round, .int .i64 l[i].node]) ∧
    (∀ i (h : i < l.length), CellsG G (((adr A).add (i * 10)).add 3) l[i].cmd.cells) ∧ (∀ i (h : i < l.length), l[i].ok) := by
  obtain ⟨A, c, rfl, h1, h2, h3, h4⟩ := h.open
  have key : ∀ i (h : i < l.length), CellsG G ((adr A).add (i * 10)) l[i].cells ∧ l[i].ok := fun i hi => by
    obtain ⟨cs, _, ⟨rfl, h6⟩, h5⟩ := h4 i _ (List.getElem?_eq_getElem hi)
    exact ⟨h5, h6⟩
  refine ⟨A, c, rfl, h1, h2, h3, fun i hi => (key i hi).1, fun i hi => ?_, fun i hi => ?_, fun i hi => (key i hi).2⟩
  · exact cellsG_take 2 (cellsG_drop 1 (key i hi).1)
  · exact cellsG_drop 3 (key i hi).1
/-! ### One -/
noncomputable def oneI (x : Ent) : Int := if x.index < 1 ∨ 4294967296 < x.index ∨ ¬ mayP x.round x.node then 6 else cmdI x.cmd
/-! ### All -/
theorem esCell {G : GH} {A : Option Addr} {l : List Ent} (hcp : ∀ i (h : i < l.length), CellsG G ((adr A).add (i * 10)) l[i].cells) (i : Nat) (h : i < l.length) : GH.cell? G (((adr A).add (i * 10)).add 0) = some (.int .i64 l[i].index) := (hcp i h).cell (j := 0) rfl
end Go.Proofs.YtnoiahlpmgbhfaaDoor
/-
  recone (layer 16), the fourth part: equal records; large ones.
-/
set_option linter.unusedSimpArgs false
set_option linter.unusedVariables false
namespace Go.Proofs.YtnoiahlpmgbhfaaDoor
open Go.Vx Go.ChangeShapes Go.WideShapes Go.ChangeAt Go.RowKit
theorem bEqual_s {G : GH} {a b : List Int} {av bv : Value} (ha : Sl G 1 (IntR .u8) av a) (hb : Sl G 1 (IntR .u8) bv b) : Con Tryd.prog 68 #[av, bv] G [] (Just (.bool (decide (a = b))) G) := by
  obtain ⟨A, c, rfl, hlc, hcm, hsome, hel, _⟩ := ha.openInt
  obtain ⟨A', c', rfl, hlc', hcm', hsome', hel', _⟩ := hb.openInt
  simp only [maxLen] at hcm hcm'
  refine v_enter Tryd.func68 rfl Tryd.ntmps68 rfl (fun B => ?_)
  repeat' (first | apply v_seq | apply v_region | apply v_nil | apply v_skip | apply v_block | (apply v_pure; (case hop => first | (apply p_move <;> rfl) | (apply p_ne <;> rfl) | (apply p_assign <;> rfl) | (apply p_lenSlice <;> rfl) | fail); (case hd => rfl)) | (apply v_cond; (case hc => rfl); all_goals (intro h; (try simp only [reduceCtorEq, dec_true, dec_false, decide_eq_true_eq, decide_eq_false_iff_not, Bool.not_eq_true', Bool.not_eq_false', Option.isNone_iff_eq_none, beq_true, beq_false, beq_iff_eq, beq_eq_false_iff_ne, ne_eq, decide_eq_decide, Bool.not_eq_true, Bool.not_eq_false, Decidable.not_not] at h); first | skip)) | fail)
  · refine v_ret [] (outsA1 rfl rfl) (by repeat (first | exact List.Sublist.refl _ | fail)) ?_
    refine ⟨?_, rfl, rfl⟩
    rw [decide_eq_false]
    intro e
    subst e
    omega
  have hab : a.length = b.length := by omega
  refine v_loop [13, 12, 0, 1] (fun us G' μ' => G' = G ∧ μ' = [] ∧ ∃ k, k ≤ a.length ∧ us = [Value.int .i64 (k : Nat), .int .i64 a.length, .slice A a.length c, .slice A' b.length c'] ∧ ∀ i (h : i < a.length) (h' : i < b.length), i < k → a[i] = b[i]) (fun us => a.length - (headI us).toNat) rfl ⟨rfl, rfl, 0, by omega, rfl, by omega⟩ ?_
  rintro us G' μ' ⟨rfl, rfl, k, hk, rfl, hno⟩
  repeat' (first | apply v_seq | apply v_region | apply v_nil | apply v_skip | apply v_block | (apply v_exit; (case hp => rfl)) | (apply v_pure; (case hop => first | (apply p_move <;> rfl) | (apply p_lt <;> rfl) | (apply p_assign <;> rfl) | fail); (case hd => rfl)) | (apply v_cond; (case hc => rfl); all_goals (intro h; (try simp only [reduceCtorEq, dec_true, dec_false, decide_eq_true_eq, decide_eq_false_iff_not, Bool.not_eq_true', Bool.not_eq_false', Option.isNone_iff_eq_none, beq_true, beq_false, beq_iff_eq, beq_eq_false_iff_ne, ne_eq, decide_eq_decide, Bool.not_eq_true, Bool.not_eq_false, Decidable.not_not] at h); first | skip)) | fail)
  · refine d_start [] (by kernel_rfl) (by kernel_rfl) (by intro e he; first | exact he | fail) ?_
    all_goals (first | (apply d_take 0; (case hi => rfl); (case hop => first | (apply PureOp.read; apply p_move <;> rfl)); (case hf => kernel_rfl); (case hr => kernel_rfl); (case hd => rfl)) | fail)
    all_goals (first | (apply d_take 1; (case hi => rfl); (case hop => first | (apply PureOp.read; apply p_move <;> rfl)); (case hf => kernel_rfl); (case hr => kernel_rfl); (case hd => rfl)) | fail)
    all_goals (first | (apply d_take 2; (case hi => rfl); (case hop => first | (apply PureOp.read; apply p_indexAddrS; (case hx => rfl); (case hi => rfl); (case h0 => omega); (case h => omega); (case hA => first | (apply_assumption; omega)))); (case hf => kernel_rfl); (case hr => kernel_rfl); (case hd => rfl)) | fail)
    all_goals (first | (apply d_take 3; (case hi => rfl); (case hop => first | ((apply r_load1; rfl; exact Cell.frozen (hel _ (by omega)))) | fail); (case hf => kernel_rfl); (case hr => kernel_rfl); (case hd => rfl)) | fail)
    all_goals (first | (apply d_take 4; (case hi => rfl); (case hop => first | (apply PureOp.read; apply p_move <;> rfl)); (case hf => kernel_rfl); (case hr => kernel_rfl); (case hd => rfl)) | fail)
    all_goals (first | (apply d_take 5; (case hi => rfl); (case hop => first | (apply PureOp.read; apply p_move <;> rfl)); (case hf => kernel_rfl); (case hr => kernel_rfl); (case hd => rfl)) | fail)
    all_goals (first | (apply d_take 6; (case hi => rfl); (case hop => first | (apply PureOp.read; apply p_indexAddrS; (case hx => rfl); (case hi => rfl); (case h0 => omega); (case h => omega); (case hA => first | (apply_assumption; omega)))); (case hf => kernel_rfl); (case hr => kernel_rfl); (case hd => rfl)) | fail)
    all_goals (first | (apply d_take 7; (case hi => rfl); (case hop => first | ((apply r_load1; rfl; exact Cell.frozen (hel' _ (by omega)))) | fail); (case hf => kernel_rfl); (case hr => kernel_rfl); (case hd => rfl)) | fail)
    all_goals (first | (apply d_take 8; (case hi => rfl); (case hop => first | (apply PureOp.read; apply p_ne <;> rfl) | fail); (case hf => kernel_rfl); (case hr => kernel_rfl); (case hd => rfl)) | fail)
    all_goals (apply d_done; (case hr => kernel_rfl))
    repeat' (first | apply v_seq | apply v_region | apply v_nil | apply v_skip | apply v_blk | (apply v_pure; (case hop => first | (apply p_move <;> rfl) | (apply p_assign <;> rfl) | (apply p_add; (case hx => rfl); (case hy => rfl); (case h => omega)) | fail); (case hd => rfl)) | (apply v_cond; (case hc => rfl); all_goals (intro h; (try simp only [reduceCtorEq, dec_true, dec_false, decide_eq_true_eq, decide_eq_false_iff_not, Bool.not_eq_true', Bool.not_eq_false', Option.isNone_iff_eq_none, beq_true, beq_false, beq_iff_eq, beq_eq_false_iff_ne, ne_eq, decide_eq_decide, Bool.not_eq_true, Bool.not_eq_false, Decidable.not_not] at h); first | skip)) | fail)
    · refine v_ret [] (outsA1 rfl rfl) (by repeat (first | exact List.Sublist.refl _ | fail)) ?_
      refine ⟨?_, rfl, rfl⟩
      rw [decide_eq_false]
      intro e
      subst e
      contradiction
    · refine v_again rfl ⟨rfl, rfl, k + 1, by omega, rfl, fun i h h' hi => ?_⟩ (by simp [headI]; omega)
      by_cases hik : i = k
      · subst hik; assumption
      · exact hno i h h' (by omega)
  · refine v_ret [] (outsA1 rfl rfl) (by repeat (first | exact List.Sublist.refl _ | fail)) ?_
    refine ⟨?_, rfl, rfl⟩
    rw [decide_eq_true]
    exact List.ext_getElem hab fun i h h' => hno i h h' (by omega)
theorem bSame_s {G : GH} {a b : List Int} {av bv : Value} (ha : Sl G 1 (IntR .u8) av a) (hb : Sl G 1 (IntR .u8) bv b) : Con Tryd.prog 15 #[av, bv] G [] (Just (.bool (decide (a = b))) G) := by
  obtain ⟨A, c, rfl, hlc, hcm, hsome, hel, _⟩ := ha.openInt
  obtain ⟨A', c', rfl, hlc', hcm', hsome', hel', _⟩ := hb.openInt
  simp only [maxLen] at hcm hcm'
  refine v_enter Tryd.func15 rfl Tryd.ntmps15 rfl (fun B => ?_)
  repeat' (first | apply v_seq | apply v_region | apply v_nil | apply v_skip | apply v_block | (apply v_pure; (case hop => first | (apply p_move <;> rfl) | (apply p_ne <;> rfl) | (apply p_assign <;> rfl) | (apply p_lenSlice <;> rfl) | fail); (case hd => rfl)) | (apply v_cond; (case hc => rfl); all_goals (intro h; (try simp only [reduceCtorEq, dec_true, dec_false, decide_eq_true_eq, decide_eq_false_iff_not, Bool.not_eq_true', Bool.not_eq_false', Option.isNone_iff_eq_none, beq_true, beq_false, beq_iff_eq, beq_eq_false_iff_ne, ne_eq, decide_eq_decide, Bool.not_eq_true, Bool.not_eq_false, Decidable.not_not] at h); first | skip)) | fail)
  · refine v_ret [] (outsA1 rfl rfl) (by repeat (first | exact List.Sublist.refl _ | fail)) ?_
    refine ⟨?_, rfl, rfl⟩
    rw [decide_eq_false]
    intro e
    subst e
    omega
  have hab : a.length = b.length := by omega
  refine v_loop [5, 0, 1] (fun us G' μ' => G' = G ∧ μ' = [] ∧ ∃ k, k ≤ a.length ∧ us = [Value.int .i64 (k : Nat), .slice A a.length c, .slice A' b.length c'] ∧ ∀ i (h : i < a.length) (h' : i < b.length), i < k → a[i] = b[i]) (fun us => a.length - (headI us).toNat) rfl ⟨rfl, rfl, 0, by omega, rfl, by omega⟩ ?_
  rintro us G' μ' ⟨rfl, rfl, k, hk, rfl, hno⟩
  repeat' (first | apply v_seq | apply v_region | apply v_nil | apply v_skip | apply v_block | (apply v_exit; (case hp => rfl)) | (apply v_pure; (case hop => first | (apply p_move <;> rfl) | (apply p_lt <;> rfl) | (apply p_assign <;> rfl) | (apply p_lenSlice <;> rfl) | fail); (case hd => rfl)) | (apply v_cond; (case hc => rfl); all_goals (intro h; (try simp only [reduceCtorEq, dec_true, dec_false, decide_eq_true_eq, decide_eq_false_iff_not, Bool.not_eq_true', Bool.not_eq_false', Option.isNone_iff_eq_none, beq_true, beq_false, beq_iff_eq, beq_eq_false_iff_ne, ne_eq, decide_eq_decide, Bool.not_eq_true, Bool.not_eq_false, Decidable.not_not] at h); first | skip)) | fail)
  · refine d_start [] (by kernel_rfl) (by kernel_rfl) (by intro e he; first | exact he | fail) ?_
    all_goals (first | (apply d_take 0; (case hi => rfl); (case hop => first | (apply PureOp.read; apply p_move <;> rfl)); (case hf => kernel_rfl); (case hr => kernel_rfl); (case hd => rfl)) | fail)
    all_goals (first | (apply d_take 1; (case hi => rfl); (case hop => first | (apply PureOp.read; apply p_move <;> rfl)); (case hf => kernel_rfl); (case hr => kernel_rfl); (case hd => rfl)) | fail)
    all_goals (first | (apply d_take 2; (case hi => rfl); (case hop => first | (apply PureOp.read; apply p_indexAddrS; (case hx => rfl); (case hi => rfl); (case h0 => omega); (case h => omega); (case hA => first | (apply_assumption; omega)))); (case hf => kernel_rfl); (case hr => kernel_rfl); (case hd => rfl)) | fail)
    all_goals (first | (apply d_take 3; (case hi => rfl); (case hop => first | ((apply r_load1; rfl; exact Cell.frozen (hel _ (by omega)))) | fail); (case hf => kernel_rfl); (case hr => kernel_rfl); (case hd => rfl)) | fail)
    all_goals (first | (apply d_take 4; (case hi => rfl); (case hop => first | (apply PureOp.read; apply p_move <;> rfl)); (case hf => kernel_rfl); (case hr => kernel_rfl); (case hd => rfl)) | fail)
    all_goals (first | (apply d_take 5; (case hi => rfl); (case hop => first | (apply PureOp.read; apply p_move <;> rfl)); (case hf => kernel_rfl); (case hr => kernel_rfl); (case hd => rfl)) | fail)
    all_goals (first | (apply d_take 6; (case hi => rfl); (case hop => first | (apply PureOp.read; apply p_indexAddrS; (case hx => rfl); (case hi => rfl); (case h0 => omega); (case h => omega); (case hA => first | (apply_assumption; omega)))); (case hf => kernel_rfl); (case hr => kernel_rfl); (case hd => rfl)) | fail)
    all_goals (first | (apply d_take 7; (case hi => rfl); (case hop => first | ((apply r_load1; rfl; exact Cell.frozen (hel' _ (by omega)))) | fail); (case hf => kernel_rfl); (case hr => kernel_rfl); (case hd => rfl)) | fail)
    all_goals (first | (apply d_take 8; (case hi => rfl); (case hop => first | (apply PureOp.read; apply p_ne <;> rfl) | fail); (case hf => kernel_rfl); (case hr => kernel_rfl); (case hd => rfl)) | fail)
    all_goals (apply d_done; (case hr => kernel_rfl))
    repeat' (first | apply v_seq | apply v_region | apply v_nil | apply v_skip | apply v_blk | (apply v_pure; (case hop => first | (apply p_move <;> rfl) | (apply p_assign <;> rfl) | (apply p_add; (case hx => rfl); (case hy => rfl); (case h => omega)) | fail); (case hd => rfl)) | (apply v_cond; (case hc => rfl); all_goals (intro h; (try simp only [reduceCtorEq, dec_true, dec_false, decide_eq_true_eq, decide_eq_false_iff_not, Bool.not_eq_true', Bool.not_eq_false', Option.isNone_iff_eq_none, beq_true, beq_false, beq_iff_eq, beq_eq_false_iff_ne, ne_eq, decide_eq_decide, Bool.not_eq_true, Bool.not_eq_false, Decidable.not_not] at h); first | skip)) | fail)
    · refine v_ret [] (outsA1 rfl rfl) (by repeat (first | exact List.Sublist.refl _ | fail)) ?_
      refine ⟨?_, rfl, rfl⟩
      rw [decide_eq_false]
      intro e
      subst e
      contradiction
    · refine v_again rfl ⟨rfl, rfl, k + 1, by omega, rfl, fun i h h' hi => ?_⟩ (by simp [headI]; omega)
      by_cases hik : i = k
      · subst hik; assumption
      · exact hno i h h' (by omega)
  · refine v_ret [] (outsA1 rfl rfl) (by repeat (first | exact List.Sublist.refl _ | fail)) ?_
    refine ⟨?_, rfl, rfl⟩
    rw [decide_eq_true]
    exact List.ext_getElem hab fun i h h' => hno i h h' (by omega)
/-- A record. -/
structure Rc where
  kind : Int
  round : Int
  node : Int
  index : Int
  cmd : Cm
  image : List Int
noncomputable instance : DecidableEq Rc := fun a b => Classical.propDecidable (a = b)
/-- Record x lies in cells; its image is frozen. -/
def RcV (G : GH) (x : Rc) (v : Value) : Prop := ∃ iv, v = .agg (recL x.kind x.round x.node x.index x.cmd iv).toArray ∧ Sl G 1 (IntR .u8) iv x.image
theorem RcV.le {G G' : GH} (h : GH.le G G') {x : Rc} {v : Value} (hx : RcV G x v) : RcV G' x v := let ⟨iv, h1, h2⟩ := hx; ⟨iv, h1, h2.mono h⟩
def Rc.large (x : Rc) : Prop := 200 < x.cmd.key.size ∨ 200 < x.cmd.val.size ∨ 200 < x.cmd.old.size ∨ (300 < x.image.length ∧ x.image.length < 32760) ∨ 32780 < x.image.length
instance (x : Rc) : Decidable x.large := by unfold Rc.large; infer_instance
theorem recLarge_s {G : GH} {x : Rc} {xv : Value} (hx : RcV G x xv) (hc : x.cmd.ok) : Con Tryd.prog 28 #[xv] G [] (Just (.bool (decide x.large)) G) := by
  obtain ⟨k, r, n, i, c, im⟩ := x
  obtain ⟨iv, rfl, hi⟩ := hx
  obtain ⟨A, cp, rfl, hlc, hcm, _⟩ := hi.openInt
  obtain ⟨_, _, _, hk, hv, ho, _⟩ := hc
  simp only [maxLen] at hk hv ho hcm
  simp only at hlc hi
  apply Con.just
  refine v_enter Tryd.func28 rfl Tryd.ntmps28 rfl (fun B => ?_)
  repeat' (first | apply v_seq | apply v_region | apply v_nil | (apply v_take; (case hg => rfl)) | (apply v_pass; (case hg => rfl); (case hn => rfl); (case hd => rfl)) | (apply v_passN; (case hg => rfl); (case hn => rfl); (case hd => rfl)) | (apply v_pure; (case hop => first | (apply p_move <;> rfl) | (apply p_lt <;> rfl) | (apply p_gt <;> rfl) | (apply p_assign <;> rfl) | (apply p_pickT <;> rfl) | (apply p_pickF <;> rfl) | (apply p_lenSlice <;> rfl) | (apply p_fieldAddrB <;> rfl) | (apply p_lenString <;> rfl) | fail); (case hd => rfl)) | (apply v_guardB; (case h1 => rfl); (case h2 => rfl); all_goals (intro h; (try simp only [reduceCtorEq, dec_true, dec_false, decide_eq_true_eq, decide_eq_false_iff_not, Bool.not_eq_true', Bool.not_eq_false', Option.isNone_iff_eq_none, beq_true, beq_false, beq_iff_eq, beq_eq_false_iff_ne, ne_eq, decide_eq_decide, Bool.not_eq_true, Bool.not_eq_false, Decidable.not_not] at h); first | skip)) | (apply v_box (zs := recL k r n i c (.slice A im.length cp)); (case hx => rfl); (case hz => rfl); (case hd => rfl); intro b1) | (apply v_read; (case hop => first | (apply r_load1; rfl; (apply Cell.own; (case h => (repeat (first | exact List.Mem.head _ | fail))); rfl)) | fail); (case hd => rfl)) | fail)
  all_goals
    (refine v_ret [] (outsA1 rfl rfl) (by repeat (first | exact List.nil_sublist _ | fail)) ?_
     refine ⟨?_, rfl⟩
     (try simp only [dec_eq])
     congr 1
     (try rw [decide_eq_decide])
     (try symm)
     first
       | (rw [decide_eq_true_iff]; unfold Rc.large; simp only; omega)
       | (rw [decide_eq_false_iff_not]; unfold Rc.large; simp only; omega)
       | (unfold Rc.large; simp only; omega))
end Go.Proofs.YtnoiahlpmgbhfaaDoor
/-
  pack (layer 4) and varint (layer 1), the first part: numbers are put behind bytes.
-/
set_option linter.unusedSimpArgs false
set_option linter.unusedVariables false
namespace Go.Proofs.YtnoiahlpmgbhfaaDoor
open Go.Vx Go.ChangeShapes Go.WideShapes Go.ChangeAt Go.RowKit
/-! ### Bytes -/
theorem bclone_s {G : GH} {l : List Int} {sv : Value} (hs : Sl G 1 (IntR .u8) sv l) (hl : l.length ≤ 1048576) : Con Tryd.prog 77 #[sv] G [] (fun r G' μ' => G' = G ∧ Grow 5 1 r l.length (l.map (.int .u8 ·)) μ') := by
  obtain ⟨A, c, rfl, hlc, hcm, hsome, hel, _⟩ := hs.openInt
  simp only [maxLen] at hcm
  refine v_enter Tryd.func77 rfl Tryd.ntmps77 rfl (fun B => ?_)
  repeat' (first | apply v_seq | apply v_region | apply v_nil | apply v_skip | (apply v_pure; (case hop => first | (apply p_move <;> rfl) | (apply p_assign <;> rfl) | (apply p_eqNilSlice <;> rfl)); (case hd => rfl)) | (apply v_cond; (case hc => rfl); all_goals (intro h; (try simp only [reduceCtorEq, dec_true, dec_false, decide_eq_true_eq, decide_eq_false_iff_not, Bool.not_eq_true', Bool.not_eq_false', Option.isNone_iff_eq_none, beq_true, beq_false, beq_iff_eq, beq_eq_false_iff_ne, ne_eq, decide_eq_decide, Bool.not_eq_true, Bool.not_eq_false, Decidable.not_not] at h); first | skip)) | (apply v_buildSlice; (case hz => rfl); (case hi => rfl); (case hv => (simp only [List.map_cons, List.map_nil]; repeat (first | with_reducible exact evs_nil | fail))); (case hp => (first | with_reducible exact pk_nil | fail)); (case hb => rfl); (case hd => rfl); intro b) | fail)
  · refine v_ret [] (outsA1 rfl rfl) (by repeat (first | exact List.Sublist.refl _ | fail)) ?_
    have : l = [] := by
      cases l with
      | nil => rfl
      | cons a l => have := hsome (by simp); simp_all
    subst this
    exact ⟨rfl, Grow.nil _ _⟩
  · refine v_append (e := 5) (sz := 1) (zero := .int .u8 0) rfl (by omega) rfl rfl Grow.empty (List.Perm.refl _) (Src.ints hs) (allOne_ints l) (by omega) (by simp only [maxLen]; omega) rfl ?_
    intro v' ν' hg
    repeat' (first | apply v_nil | (apply v_pure; (case hop => first | (apply p_assign <;> rfl) | fail); (case hd => rfl)) | fail)
    refine v_ret ν' (outsA1 rfl rfl) (by simp) ?_
    rw [Nat.zero_add, List.nil_append] at hg
    exact ⟨rfl, hg⟩
/-! ### A writer: a block of one cell, whose slice is frozen -/
end Go.Proofs.YtnoiahlpmgbhfaaDoor
/-
  recone (layer 16), the fifth part: what V1 has; the example.
-/
set_option linter.unusedSimpArgs false
set_option linter.unusedVariables false
namespace Go.Proofs.YtnoiahlpmgbhfaaDoor
open Go.Vx Go.ChangeShapes Go.WideShapes Go.ChangeAt Go.RowKit
def HasV (v k : Int) : Prop := (v = 1 ∧ 1 ≤ k ∧ k ≤ 8 ∧ k ≠ 5) ∨ (v = 2 ∧ 1 ≤ k ∧ k ≤ 8)
instance (v k : Int) : Decidable (HasV v k) := by unfold HasV; infer_instance
end Go.Proofs.YtnoiahlpmgbhfaaDoor
/-
  entry (layer 12), the second part: what may be, by the reference; too large; kinds that a version has.
-/
set_option linter.unusedSimpArgs false
set_option linter.unusedVariables false
namespace Go.Proofs.YtnoiahlpmgbhfaaDoor
open Go.Vx Go.ChangeShapes Go.WideShapes Go.ChangeAt Go.RowKit
/-! ### Kinds that a version has -/
def HasAll (v : Int) (l : List Ent) : Prop := ∀ i (h : i < l.length), HasV v l[i].cmd.kind
noncomputable instance (v : Int) (l : List Ent) : Decidable (HasAll v l) := Classical.propDecidable _
end Go.Proofs.YtnoiahlpmgbhfaaDoor
/-
  entry (layer 12), the fourth part: the place of an index (slices.BinarySearchFunc).
-/
set_option linter.unusedSimpArgs false
set_option linter.unusedVariables false
namespace Go.Proofs.YtnoiahlpmgbhfaaDoor
open Go.Vx Go.ChangeShapes Go.WideShapes Go.ChangeAt Go.RowKit
theorem p_convUW {σ : Env} {ty : TypeId} {x : Operand} {k'' : IntKind} {a : Int} {t u : TypeId} [Ty Tryd.prog t (.int k'')] [Ty Tryd.prog u (.int .u64)] (hx : Env.ev σ x = some (.int .i64 (IntKind.i64.wrap a))) (h : 0 ≤ a ∧ a ≤ 18446744073709551615) : PureOp Tryd.prog (.convert t u x) ty σ (.int .u64 a) := by
  have e : IntKind.u64.wrap (IntKind.i64.wrap a) = a := by rw [IntKind.wrap_u64, IntKind.wrap_i64]; omega
  have := p_conv (P := Tryd.prog) (ty := ty) (t := t) (u := u) hx
  rwa [e] at this
attribute [local semireducible] PureOp in
theorem p_shr1 {σ : Env} {ty : TypeId} {x y : Operand} {k' : IntKind} {a : Int} {t t' : TypeId} (hx : Env.ev σ x = some (.int .u64 a)) (hy : Env.ev σ y = some (.int k' 1)) : PureOp Tryd.prog (.binOp .shr t x y t') ty σ (.int .u64 (a / 2)) := by
  intro dst pos af g ρ hρ w
  have := shift_shr .u64 k' a 1 (by decide) (by decide)
  simp [execOp, hρ _ _ hx, hρ _ _ hy, eqGuard, binOp_shr, this]
theorem isNaN_s (G : GH) (a : Int) : Con Tryd.prog 155 #[.int .i64 a] G [] (Just (.bool false) G) := by
  apply Con.just
  refine v_enter Tryd.func155 rfl Tryd.ntmps155 rfl (fun B => ?_)
  repeat' (first | apply v_seq | apply v_region | apply v_nil | (apply v_pure; (case hop => first | (apply p_move <;> rfl) | (apply p_nes <;> rfl) | (apply p_assign <;> rfl) | fail); (case hd => rfl)) | fail)
  refine v_ret [] (outsA1 rfl rfl) (by repeat (first | exact List.Sublist.refl _ | fail)) ?_
  refine ⟨?_, rfl⟩
  simp [dec_eq]
def cmpI (a b : Int) : Int := if a < b then -1 else if b < a then 1 else 0
theorem cmp_s (G : GH) (a b : Int) : Con Tryd.prog 127 #[.int .i64 a, .int .i64 b] G [] (Just (.int .i64 (cmpI a b)) G) := by
  have qa := isNaN_s G a
  have qb := isNaN_s G b
  apply Con.just
  refine v_enter Tryd.func127 rfl Tryd.ntmps127 rfl (fun B => ?_)
  repeat' (first | apply v_seq | apply v_region | apply v_nil | apply v_skip | (apply v_pure; (case hop => first | (apply p_move <;> rfl) | (apply p_lt <;> rfl) | (apply p_gt <;> rfl) | (apply p_assign <;> rfl)); (case hd => rfl)) | (apply v_condF; (case hc => rfl)) | (apply v_cond; (case hc => rfl); all_goals (intro h; (try simp only [reduceCtorEq, dec_true, dec_false, decide_eq_true_eq, decide_eq_false_iff_not, Bool.not_eq_true', Bool.not_eq_false', Option.isNone_iff_eq_none, beq_true, beq_false, beq_iff_eq, beq_eq_false_iff_ne, ne_eq, decide_eq_decide, Bool.not_eq_true, Bool.not_eq_false, Decidable.not_not] at h); first | skip)) | (apply v_callJ (hs := qa); (case ha => rfl); (case hd => rfl)) | (apply v_callJ (hs := qb); (case ha => rfl); (case hd => rfl)) | fail)
  all_goals
    (refine v_ret [] (outsA1 rfl rfl) (by repeat (first | exact List.Sublist.refl _ | fail)) ?_
     refine ⟨?_, rfl⟩
     simp [cmpI, *])
theorem cmpI_lt {a b : Int} : cmpI a b < 0 ↔ a < b := by unfold cmpI; split <;> (try split) <;> simp <;> omega
theorem cmpI_eq {a b : Int} : cmpI a b = 0 ↔ a = b := by unfold cmpI; split <;> (try split) <;> simp <;> omega
theorem place1_s (G : GH) (x : Ent) (n : Int) : Con Tryd.prog 151 #[.agg x.cells.toArray, .int .i64 n] G [] (Just (.int .i64 (cmpI x.index n)) G) := by
  have qc := cmp_s G x.index n
  apply Con.just
  refine v_enter Tryd.func151 rfl Tryd.ntmps151 rfl (fun B => ?_)
  repeat' (first | apply v_seq | apply v_region | apply v_nil | (apply v_pure; (case hop => first | (apply p_move <;> rfl) | (apply p_assign <;> rfl) | (apply p_fieldAddrB <;> rfl) | fail); (case hd => rfl)) | (apply v_box (zs := x.cells); (case hx => rfl); (case hz => rfl); (case hd => rfl); intro b) | (apply v_callJ (hs := qc); (case ha => rfl); (case hd => rfl)) | (apply v_read; (case hop => first | (apply r_load1; rfl; (apply Cell.own; (case h => (repeat (first | exact List.Mem.head _ | fail))); rfl)) | fail); (case hd => rfl)) | fail)
  refine v_ret [] (outsA1 rfl rfl) (by repeat (first | exact List.nil_sublist _ | fail)) ?_
  exact ⟨rfl, rfl⟩
/-- Indices rise. -/
def RiseL (l : List Ent) : Prop := ∀ i j (hj : j < l.length) (h : i < j), (l[i]'(by omega)).index < l[j].index
def placeN (l : List Ent) (n : Int) : Nat := l.countP fun x => decide (x.index < n)
theorem placeN_eq {l : List Ent} {n : Int} {i : Nat} (hi : i ≤ l.length) (h1 : ∀ m (h : m < l.length), m < i → l[m].index < n) (h2 : ∀ m (h : m < l.length), i ≤ m → ¬ l[m].index < n) : placeN l n = i := by
  have e : l = l.take i ++ l.drop i := (List.take_append_drop i l).symm
  rw [placeN, e, List.countP_append, List.countP_eq_length.2, List.countP_eq_zero.2, List.length_take, Nat.add_zero]
  · omega
  · intro x hx
    obtain ⟨m, hm, rfl⟩ := List.getElem_of_mem hx
    rw [List.length_drop] at hm
    rw [List.getElem_drop]
    simpa using h2 (i + m) (by omega) (by omega)
  · intro x hx
    obtain ⟨m, hm, rfl⟩ := List.getElem_of_mem hx
    rw [List.length_take] at hm
    rw [List.getElem_take]
    simpa using h1 m (by omega) (by omega)
noncomputable def hitB (l : List Ent) (n : Int) : Bool := if h : placeN l n < l.length then decide ((l[placeN l n]).index = n) else false
theorem entSearch_s {G : GH} {l : List Ent} {sv : Value} (n : Int) (hs : Es G sv l) (hr : RiseL l) : Con Tryd.prog 150 #[sv, .int .i64 n, .func (.func 151) #[] #[]] G [] (Just (.tuple [.int .i64 (placeN l n : Nat), .bool (hitB l n)].toArray) G) := by
  obtain ⟨A, c, rfl, hlc, hcm, hsome, hcp, hcb, hcc, hok⟩ := esOpen hs
  simp only [maxLen] at hcm
  apply Con.just
  refine v_enter Tryd.func150 rfl Tryd.ntmps150 rfl (fun B => ?_)
  repeat' (first | apply v_seq | apply v_region | apply v_nil | apply v_block | (apply v_pure; (case hop => first | (apply p_move <;> rfl) | (apply p_assign <;> rfl) | (apply p_lenSlice <;> rfl) | fail); (case hd => rfl)) | fail)
  refine v_loop [9, 10, 8, 0, 1, 2] (fun us G' μ' => G' = G ∧ μ' = [] ∧ ∃ i j : Nat, i ≤ j ∧ j ≤ l.length ∧ us = [Value.int .i64 (i : Nat), .int .i64 (j : Nat), .int .i64 l.length, .slice A l.length c, .int .i64 n, .func (.func 151) #[] #[]] ∧ (∀ m (h : m < l.length), m < i → l[m].index < n) ∧ (∀ m (h : m < l.length), j ≤ m → ¬ l[m].index < n)) (fun us => match us with | .int _ i :: .int _ j :: _ => (j - i).toNat | _ => 0) rfl ⟨rfl, rfl, 0, l.length, by omega, by omega, rfl, by omega, by omega⟩ ?_
  rintro us G' μ' ⟨rfl, rfl, i, j, hij, hj, rfl, h1, h2⟩
  have qp := fun (m : Nat) (h : m < l.length) => place1_s G' l[m] n
  have em : ((((i : Nat) : Int) + ((j : Nat) : Int)) / 2).toNat = (i + j) / 2 := by omega
  repeat' (first | apply v_seq | apply v_region | apply v_nil | apply v_skip | apply v_block | apply v_blk | (apply v_exit; (case hp => rfl)) | (apply v_take; (case hg => rfl)) | (apply v_pass; (case hg => rfl); (case hn => rfl); (case hd => rfl)) | (apply v_pure; (case hop => first | (apply p_move <;> rfl) | (apply p_eq <;> rfl) | (apply p_lt <;> rfl) | (apply p_assign <;> rfl) | (apply p_pickT <;> rfl) | (apply p_pickF <;> rfl) | (apply p_add; (case hx => rfl); (case hy => rfl); (case h => omega)) | (apply p_indexAddrS; (case hx => rfl); (case hi => rfl); (case h0 => omega); (case h => omega); (case hA => first | (apply_assumption; omega))) | (apply p_conv64; (case hx => rfl); (case h => omega)) | fail); (case hd => rfl)) | (apply v_cond; (case hc => rfl); all_goals (intro h; (try simp only [reduceCtorEq, dec_true, dec_false, decide_eq_true_eq, decide_eq_false_iff_not, Bool.not_eq_true', Bool.not_eq_false', Option.isNone_iff_eq_none, beq_true, beq_false, beq_iff_eq, beq_eq_false_iff_ne, ne_eq, decide_eq_decide, Bool.not_eq_true, Bool.not_eq_false, Decidable.not_not] at h); first | skip)) | (apply v_guardB; (case h1 => rfl); (case h2 => rfl); all_goals (intro h; (try simp only [reduceCtorEq, dec_true, dec_false, decide_eq_true_eq, decide_eq_false_iff_not, Bool.not_eq_true', Bool.not_eq_false', Option.isNone_iff_eq_none, beq_true, beq_false, beq_iff_eq, beq_eq_false_iff_ne, ne_eq, decide_eq_decide, Bool.not_eq_true, Bool.not_eq_false, Decidable.not_not] at h); first | skip)) | (apply v_pure; (case hop => (apply p_convUW; (case hx => rfl); (case h => omega))); (case hd => rfl)) | (apply v_pure; (case hop => (apply p_addw; (case hx => rfl); (case hy => rfl))); (case hd => rfl)) | (apply v_pure; (case hop => (apply p_shr1; (case hx => rfl); (case hy => rfl))); (case hd => rfl)) | (apply v_read; (case hop => first | (apply r_loadN; rfl; exact CellsAt.frozen (hcp _ (by omega)); rfl)); (case hd => rfl)) | (apply v_callFJ0 (hs := qp ((((i : Nat) : Int) + ((j : Nat) : Int)) / 2).toNat (by omega)); (case hx => rfl); (case ha => rfl); (case hd => rfl)) | (apply v_callFJ0 (hs := qp i (by omega)); (case hx => rfl); (case ha => rfl); (case hd => rfl)) | fail)
  · have hc : (l[(i + j) / 2]'(by omega)).index < n := by
      have h0 := cmpI_lt.1 ‹cmpI _ _ < 0›
      simpa only [em] using h0
    refine v_again rfl ⟨rfl, rfl, (i + j) / 2 + 1, j, by omega, hj, rfl, fun m hm hlt => ?_, h2⟩ ?_
    · by_cases he : m = (i + j) / 2
      · subst he; exact hc
      · have := hr m ((i + j) / 2) (by omega) (by omega)
        omega
    · simp only; omega
  · have hc : ¬ (l[(i + j) / 2]'(by omega)).index < n := by
      have h0 := mt cmpI_lt.2 ‹¬ cmpI _ _ < 0›
      simpa only [em] using h0
    refine v_again rfl ⟨rfl, rfl, i, (i + j) / 2, by omega, by omega, rfl, h1, fun m hm hlt => ?_⟩ ?_
    · by_cases he : m = (i + j) / 2
      · subst he; exact hc
      · have := hr ((i + j) / 2) m hm (by omega)
        omega
    · simp only; omega
  · have hp : placeN l n = i := placeN_eq (by omega) h1 (fun m h hm => h2 m h (by omega))
    refine v_ret [] (outsA2 rfl rfl rfl) (by repeat (first | exact List.Sublist.refl _ | fail)) ?_
    refine ⟨?_, rfl⟩
    unfold hitB
    simp only [hp]
    rw [dif_pos (by omega)]
    congr 5
    rw [Bool.eq_iff_iff, dec_true, decide_eq_true_iff, cmpI_eq]
  · have hp : placeN l n = i := placeN_eq (by omega) h1 (fun m h hm => h2 m h (by omega))
    refine v_ret [] (outsA2 rfl rfl rfl) (by repeat (first | exact List.Sublist.refl _ | fail)) ?_
    refine ⟨?_, rfl⟩
    unfold hitB
    simp only [hp]
    rw [dif_neg (by omega)]
theorem place_s {G : GH} {l : List Ent} {sv : Value} (n : Int) (hs : Es G sv l) (hr : RiseL l) : Con Tryd.prog 118 #[sv, .int .i64 n] G [] (Just (.tuple [.int .i64 (placeN l n : Nat), .bool (hitB l n)].toArray) G) := by
  have qs := entSearch_s n hs hr
  apply Con.just
  refine v_enter Tryd.func118 rfl Tryd.ntmps118 rfl (fun B => ?_)
  repeat' (first | apply v_seq | apply v_region | apply v_nil | (apply v_pure; (case hop => first | (apply p_move <;> rfl) | (apply p_assign <;> rfl) | (apply p_extract0 <;> rfl) | (apply p_extract1 <;> rfl) | fail); (case hd => rfl)) | (apply v_callJ (hs := qs); (case ha => rfl); (case hd => rfl)) | fail)
  refine v_ret [] (outsA2 rfl rfl rfl) (by repeat (first | exact List.Sublist.refl _ | fail)) ?_
  exact ⟨rfl, rfl⟩
end Go.Proofs.YtnoiahlpmgbhfaaDoor
/-
  VX: copy, append of zeros, slices.overlaps.
-/
set_option linter.unusedVariables false
set_option linter.unusedSimpArgs false
namespace Go.Vx
attribute [local semireducible] Vc MoveOp PureOp ReadOp DVc Con
open Go Go.Lib
section
variable {P : Program} {fn : Func} {n : Nat} {B : Base} {Φ : Value → GH → OH → Prop} {k : List It} {rest : List Oper} {all : Array Oper} {σ : Env} {G : GH} {μ : OH} {d : Nat} {t ty : TypeId} {pos : String} {af : Array Edge} {bytes : Nat} {zero : Value}
theorem m_copy {e : TypeId} {agg : Bool} {sz : Nat} {y x : Operand} {b o m c m' q : Nat} {u : Value} {vs us vs' : List Value} {μ' : OH} [Ty P t (.slice e)] [Lay P e agg sz bytes zero] (hy : Env.ev σ y = some (.slice (some ⟨b, o, none⟩) m c)) (hx : Env.ev σ x = some u) (hq : Nat.min m' m = q) (hm : 0 < m') (hsrc : Src G μ u m' sz us)
    (hb : Has μ b vs e) (h1 : (us.take (q * sz)).all Value.oneCell' = true) (hfit : o + q * sz ≤ vs.length) (hov : over vs o (us.take (q * sz)) = vs') (hu : Upd b (.cells vs'.toArray e (0, 0)) μ μ') :
    MoveOp P (.call { callee := .builtin .copy, args := #[y, x], argTypes := #[t, t] }) ty σ G μ (fun v' G' μ'' => v' = .int .i64 q ∧ G' = G ∧ μ'' = μ') := by
  intro dst pos af g ρ hρ w hw a K Q hK
  obtain ⟨i, hi, hi1, hi2, hi3⟩ := Lay.infoEx (P := P) (t := e) (agg := agg) (size := sz) (bytes := bytes) (zero := zero) inferInstance
  have ht : P.underlying t = some (.slice e) := Ty.h
  obtain ⟨hus, A, c', rfl, hA⟩ := hsrc
  obtain ⟨ad, rfl, hcs⟩ := hA hm
  have hqm : q ≤ m' := by rw [← hq]; exact Nat.min_le_left _ _
  have hlen : (us.take (q * sz)).length = q * sz := by
    rw [List.length_take, hus]
    exact Nat.min_eq_left (Nat.mul_le_mul_right _ hqm)
  have hl := run_firstCells_some (P := P) w i.size q ad m' c' (us.take (q * sz)) (by rw [hlen, hi1]) (fun j v hv => by
    rw [List.getElem?_take] at hv
    split at hv
    · exact hcs j v hv w hw.sees
    · cases hv)
  have hst := run_storeCells_at P b o e (us.take (q * sz)) 0 vs.toArray w (hw.own b _ hb) (by simp only [Nat.add_zero, List.size_toArray, hlen]; exact hfit) (fun v hv => List.all_eq_true.1 h1 v hv)
  simp only [Nat.add_zero] at hst
  have hov' : (vs.toArray.toList.take o ++ us.take (q * sz) ++ vs.toArray.toList.drop (o + (us.take (q * sz)).length)) = vs' := by rw [← hov]; rfl
  rw [hov'] at hst
  have hr : (Builtin.copy_ #[t, t] ty #[.slice (some ⟨b, o, none⟩) m c, .slice (some ad) m' c']).run P w = .ok (.int .i64 q) (w.setRow b vs'.toArray) := by
    simp [Builtin.copy_, run_underlying ht, Builtin.lenOf, sizeOf, typeInfo, hi, hq, hl, hst, goInt]
  have hex : (execOp ρ ⟨dst, .call { callee := .builtin .copy, args := #[y, x], argTypes := #[t, t] }, ty, pos, af, g⟩).run P w = .ok (.value (.int .i64 q)) (w.setRow b vs'.toArray) := by
    simp only [execOp, resolve, invoke, builtin, Sem.run_bind, Sem.run_pure, Result.andThen_ok, List.map_toArray, List.map_cons, List.map_nil, hρ _ _ hy, hρ _ _ hx, hr]
  rw [hex]
  exact hK _ _ G _ (Step.row hw hb hu) ⟨rfl, rfl, rfl⟩
theorem v_copy {e : TypeId} {agg : Bool} {sz : Nat} {y x : Operand} {b o m c m' q : Nat} {u : Value} {vs us vs' : List Value} {μ' : OH} [Ty P t (.slice e)] [Lay P e agg sz bytes zero] (hy : Env.ev σ y = some (.slice (some ⟨b, o, none⟩) m c)) (hx : Env.ev σ x = some u) (hq : Nat.min m' m = q) (hm : 0 < m') (hsrc : Src G μ u m' sz us)
    (hb : Has μ b vs e) (h1 : (us.take (q * sz)).all Value.oneCell' = true) (hfit : o + q * sz ≤ vs.length) (hov : over vs o (us.take (q * sz)) = vs') (hu : Upd b (.cells vs'.toArray e (0, 0)) μ μ') (hd : Nat.blt d n = true)
    (h : Vc P fn n B Φ (.ops all rest :: k) ((d, .int .i64 q) :: σ) G μ') : Vc P fn n B Φ (.ops all (⟨some d, .call { callee := .builtin .copy, args := #[y, x], argTypes := #[t, t] }, ty, pos, af, none⟩ :: rest) :: k) σ G μ :=
  v_move (m_copy hy hx hq hm hsrc hb h1 hfit hov hu) hd fun _ _ _ ⟨h1, h2, h3⟩ => by rw [h1, h2, h3]; exact h
theorem Src.ownAt {e : TypeId} {b o m sz c : Nat} {vs us : List Value} (h : Has μ b vs e) (hus : (vs.drop o).take (m * sz) = us) (hl : us.length = m * sz) : Src G μ (.slice (some ⟨b, o, none⟩) m c) m sz us := ⟨hl, _, _, rfl, fun _ => ⟨_, rfl, by rw [← hus]; exact CellsAt.ownAt h⟩⟩
/-- append(s, make(T, q)...) where there is no room. -/
theorem m_appendZ {e : TypeId} {agg : Bool} {sz : Nat} {s x : Operand} {A : Option Addr} {m c q : Nat} {xs : List Value} {tn : TypeId} [Ty P t (.slice e)] [Ty P tn (.int .i64)] [Lay P e agg sz bytes zero] (hzs : zero.cells.size = sz) (hsz : 0 < sz) (hs : Env.ev σ s = some (.slice A m c)) {z : Int} (hx : Env.ev σ x = some (.int .i64 z)) (hz : z = (q : Nat)) (hsrc : Src G μ (.slice A m c) m sz xs) (hq : 0 < q) (hroom : c < m + q)
    (hb : (m + q) * bytes ≤ 140737488355328) (hb' : m + q ≤ maxLen) :
    MoveOp P (.call { callee := .builtin .append, args := #[s, x], argTypes := #[t, tn] }) ty σ G μ (fun v' G' μ' => ∃ b c' spare, v' = .slice (some ⟨b, 0, none⟩) (m + q) c' ∧ m + q ≤ c' ∧ c' ≤ maxLen ∧ (xs ++ (Builtin.zeroCells zero.cells q).toList ++ spare).length = c' * sz ∧ G' = G ∧ μ' = (b, .cells (xs ++ (Builtin.zeroCells zero.cells q).toList ++ spare).toArray e (0, 0)) :: μ) := by
  subst hz
  intro dst pos af g ρ hρ w hw a K Q hK
  obtain ⟨i, hi, hi1, hi2, hi3⟩ := Lay.infoEx (P := P) (t := e) (agg := agg) (size := sz) (bytes := bytes) (zero := zero) inferInstance
  have ht : P.underlying t = some (.slice e) := Ty.h
  have htn : P.underlying tn = some (.int .i64) := Ty.h
  obtain ⟨hus, A', c', he, hA⟩ := hsrc
  cases he
  have hold : (Builtin.firstCells i.size m (.slice A m c)).run P w.drew = .ok xs.toArray w.drew := by
    by_cases hm : 0 < m
    · obtain ⟨ad, rfl, hcs⟩ := hA hm
      exact run_firstCells_some (P := P) w.drew i.size m ad m c xs (by rw [hus, hi1]) (fun j v hv => hcs j v hv w hw.sees)
    · obtain rfl : m = 0 := by omega
      have hx0 : xs = [] := List.eq_nil_of_length_eq_zero (by simpa using hus)
      subst hx0
      cases A <;> simp [Builtin.firstCells, loadCells, loadCellsFrom]
  have hr := run_append_grow_zeros (P := P) w t tn ty e i zero .i64 .i64 ht htn hi hi3 A m c xs hold q hq (by omega) hroom (by simp only [maxLen] at hb'; omega)
    (by rw [hi2]; have := Nat.mul_le_mul_right bytes (show q ≤ m + q by omega); omega) (growslice_fits (by omega) (by rw [hi2]; exact hb))
  have hex : (execOp ρ ⟨dst, .call { callee := .builtin .append, args := #[s, x], argTypes := #[t, tn] }, ty, pos, af, g⟩).run P w = .ok (.value (.slice (some ⟨w.heap.size, 0, none⟩) (m + q) (grownCap w (m + q) c e)))
        (w.drew.alloc (.cells (xs.toArray ++ Builtin.zeroCells zero.cells q ++ Builtin.zeroCells zero.cells (grownCap w (m + q) c e - (m + q))) e)) := by
    simp only [execOp, resolve, invoke, builtin, Sem.run_bind, Sem.run_pure, Result.andThen_ok, List.map_toArray, List.map_cons, List.map_nil, hρ _ _ hs, hρ _ _ hx, hr]
  rw [hex]
  have hge := grownCap_ge w (m + q) c e
  have hst := (Step.drew hw 1).trans (Step.alloc (Step.drew hw 1).mem (.cells (xs.toArray ++ Builtin.zeroCells zero.cells q ++ Builtin.zeroCells zero.cells (grownCap w (m + q) c e - (m + q))) e (0, 0)))
  refine hK _ _ G _ hst ⟨w.heap.size, grownCap w (m + q) c e, (Builtin.zeroCells zero.cells (grownCap w (m + q) c e - (m + q))).toList, rfl, hge, grownCap_le_maxLen w (m + q) c e hb', ?_, rfl, ?_⟩
  · simp only [List.length_append, Array.length_toList, size_zeroCells, hzs, hus, ← Nat.add_mul]
    congr 1
    omega
  · simp [World.drewN]
theorem v_appendZ {e : TypeId} {agg : Bool} {sz : Nat} {s x : Operand} {A : Option Addr} {m c q : Nat} {xs : List Value} {tn : TypeId} [Ty P t (.slice e)] [Ty P tn (.int .i64)] [Lay P e agg sz bytes zero] (hzs : zero.cells.size = sz) (hsz : 0 < sz) (hs : Env.ev σ s = some (.slice A m c)) {z : Int} (hx : Env.ev σ x = some (.int .i64 z)) (hz : z = (q : Nat)) (hsrc : Src G μ (.slice A m c) m sz xs) (hq : 0 < q) (hroom : c < m + q)
    (hb : (m + q) * bytes ≤ 140737488355328) (hb' : m + q ≤ maxLen) (hd : Nat.blt d n = true)
    (h : ∀ b c' spare, m + q ≤ c' → c' ≤ maxLen → (xs ++ (Builtin.zeroCells zero.cells q).toList ++ spare).length = c' * sz → Vc P fn n B Φ (.ops all rest :: k) ((d, .slice (some ⟨b, 0, none⟩) (m + q) c') :: σ) G ((b, .cells (xs ++ (Builtin.zeroCells zero.cells q).toList ++ spare).toArray e (0, 0)) :: μ)) :
    Vc P fn n B Φ (.ops all (⟨some d, .call { callee := .builtin .append, args := #[s, x], argTypes := #[t, tn] }, ty, pos, af, none⟩ :: rest) :: k) σ G μ :=
  v_move (m_appendZ hzs hsz hs hx hz hsrc hq hroom hb hb') hd fun _ _ _ ⟨b, c', sp, h1, h2, h3, h4, h5, h6⟩ => by rw [h1, h5, h6]; exact h b c' sp h2 h3 h4
/-- The function is the library's slices.overlaps. -/
class Overl (P : Program) (f : FuncId) (e : outParam TypeId) (tR : outParam TypeId) : Prop where
  h : ∃ ts, P.underlying ts = some (.slice e) ∧ ∀ args w, (callFunc f args).run P w = ((Extern.SlicesOverlaps.overlaps #[ts, ts] #[tR] args).run P w).andThen fun v w' => .ok (.value v) w'
theorem m_apart {f : FuncId} {e tR : TypeId} [ho : Overl P f e tR] {agg : Bool} {sz : Nat} [Lay P e agg sz bytes zero] {x y : Operand} {ts : Array TypeId} {b1 o1 m1 c1 b2 o2 m2 c2 : Nat} {vs1 vs2 : List Value} {e1 e2 : TypeId} (hx : Env.ev σ x = some (.slice (some ⟨b1, o1, none⟩) m1 c1)) (hy : Env.ev σ y = some (.slice (some ⟨b2, o2, none⟩) m2 c2))
    (h1 : Has μ b1 vs1 e1) (h2 : Has μ b2 vs2 e2) (hne : b1 ≠ b2) (h0 : vs2 ≠ []) :
    MoveOp P (.call { callee := .value (.func f), args := #[x, y], argTypes := ts }) ty σ G μ (fun v' G' μ' => v' = .bool false ∧ G' = G ∧ μ' = μ) := by
  intro dst pos af g ρ hρ w hw a K Q hK
  obtain ⟨T, hT, hc⟩ := ho.h
  have w1 := hw.own _ _ h1
  have w2 := hw.own _ _ h2
  have hr := run_overlaps_apart (P := P) w T tR e hT sz (fun w => run_sizeOf (P := P) (t := e) (agg := agg) (size := sz) (bytes := bytes) (zero := zero) w) ⟨b1, o1, none⟩ ⟨b2, o2, none⟩ m1 c1 m2 c2 hne e1 e2 vs1.length vs2.length
    (by simp [World.shape?, w1]) (by simp [World.shape?, w2]) (by simpa using h0) (by simp [World.frozen?, w1]) (by simp [World.frozen?, w1])
  have hf : ρ (.func f) = .func (.func f) #[] #[] := hρ _ _ rfl
  have hex : (execOp ρ ⟨dst, .call { callee := .value (.func f), args := #[x, y], argTypes := ts }, ty, pos, af, g⟩).run P w = .ok (.value (.bool false)) w := by
    simp [execOp, resolve, hf, Deferred.ofValue, invoke, hρ _ _ hx, hρ _ _ hy, hc, hr]
  rw [hex]
  exact hK _ _ G μ (Step.refl hw) ⟨rfl, rfl, rfl⟩
/-- Two blocks of ours are two. -/
theorem v_ne {is : List It} {b b' : Nat} {o : Obj} {r : OH} (hm : b' ∈ r.map (·.1)) (h : b' ≠ b → Vc P fn n B Φ is σ G ((b, o) :: r)) : Vc P fn n B Φ is σ G ((b, o) :: r) := by
  intro w hw a ha
  refine h (fun e => ?_) w hw a ha
  have := hw.mem.nodup
  rw [List.map_cons, List.nodup_cons] at this
  exact this.1 (e ▸ hm)
theorem v_apart {f : FuncId} {e tR : TypeId} [ho : Overl P f e tR] {agg : Bool} {sz : Nat} [Lay P e agg sz bytes zero] {x y : Operand} {ts : Array TypeId} {b1 o1 m1 c1 b2 o2 m2 c2 : Nat} {vs1 vs2 : List Value} {e1 e2 : TypeId} (hx : Env.ev σ x = some (.slice (some ⟨b1, o1, none⟩) m1 c1)) (hy : Env.ev σ y = some (.slice (some ⟨b2, o2, none⟩) m2 c2))
    (h1 : Has μ b1 vs1 e1) (h2 : Has μ b2 vs2 e2) (hne : b1 ≠ b2) (h0 : vs2 ≠ []) (hd : Nat.blt d n = true)
    (h : Vc P fn n B Φ (.ops all rest :: k) ((d, .bool false) :: σ) G μ) : Vc P fn n B Φ (.ops all (⟨some d, .call { callee := .value (.func f), args := #[x, y], argTypes := ts }, ty, pos, af, none⟩ :: rest) :: k) σ G μ :=
  v_move (m_apart (sz := sz) (agg := agg) (bytes := bytes) (zero := zero) hx hy h1 h2 hne h0) hd fun _ _ _ ⟨h1, h2, h3⟩ => by rw [h1, h2, h3]; exact h
theorem d_copy {ν μ' : OH} {G0 : GH} {m0 : Nat} {listed : Array Bool} (i : Nat) {e : TypeId} {agg : Bool} {sz : Nat} {y x : Operand} {b o m c m' q : Nat} {u : Value} {vs us vs' : List Value} (hi : all[i]? = some ⟨some d, .call { callee := .builtin .copy, args := #[y, x], argTypes := #[t, t] }, ty, pos, af, none⟩) (hT : Ty P t (.slice e)) (hL : Lay P e agg sz bytes zero) (hr : Region.ready .any all listed = [i])
    (hy : Env.ev σ y = some (.slice (some ⟨b, o, none⟩) m c)) (hx : Env.ev σ x = some u) (hq : Nat.min m' m = q) (hm : 0 < m') (hsrc : Src G μ u m' sz us)
    (hb : Has μ b vs e) (h1 : (us.take (q * sz)).all Value.oneCell' = true) (hfit : o + q * sz ≤ vs.length) (hov : over vs o (us.take (q * sz)) = vs') (hu : Upd b (.cells vs'.toArray e (0, 0)) μ μ') (hd : Nat.blt d n = true) (hν' : ∀ e ∈ ν, e ∈ μ')
    (h : DVc P fn n B Φ all G0 ν m0 (listed.setIfInBounds i true) k ((d, .int .i64 q) :: σ) G μ') : DVc P fn n B Φ all G0 ν (m0 + 1) listed k σ G μ :=
  d_exec i hi hr (m_copy hy hx hq hm hsrc hb h1 hfit hov hu) hd fun _ _ _ ⟨h1, h2, h3⟩ => by rw [h1, h2, h3]; exact ⟨hν', h⟩
end
end Go.Vx
/-
  entry (layer 12), the fifth part: clones of entries, and slices.Insert.
-/
set_option linter.unusedSimpArgs false
set_option linter.unusedVariables false
namespace Go.Proofs.YtnoiahlpmgbhfaaDoor
open Go.Vx Go.ChangeShapes Go.WideShapes Go.ChangeAt Go.RowKit
/-- The cells of entries. -/
def esC (l : List Ent) : List Value := (l.map Ent.cells).flatten
theorem cells_length (x : Ent) : x.cells.length = 10 := rfl
theorem esC_cons (x : Ent) (l : List Ent) : esC (x :: l) = x.cells ++ esC l := by simp [esC]
theorem esC_append (a b : List Ent) : esC (a ++ b) = esC a ++ esC b := by simp [esC]
theorem esC_length (l : List Ent) : (esC l).length = l.length * 10 := by
  induction l with
  | nil => rfl
  | cons x l ih => rw [esC_cons, List.length_append, ih, cells_length, List.length_cons]; omega
theorem esC_take (l : List Ent) (i : Nat) : (esC l).take (i * 10) = esC (l.take i) := by
  by_cases h : i ≤ l.length
  · conv => lhs; rw [← List.take_append_drop i l, esC_append]
    rw [List.take_append_of_le_length (by rw [esC_length, List.length_take]; omega), List.take_of_length_le (by rw [esC_length, List.length_take]; omega)]
  · rw [List.take_of_length_le (by rw [esC_length]; omega), List.take_of_length_le (by omega)]
theorem esC_drop (l : List Ent) (i : Nat) : (esC l).drop (i * 10) = esC (l.drop i) := by
  by_cases h : i ≤ l.length
  · conv => lhs; rw [← List.take_append_drop i l, esC_append]
    rw [List.drop_append, List.drop_of_length_le (by rw [esC_length, List.length_take]; omega), esC_length, List.length_take, show i * 10 - min i l.length * 10 = 0 by omega]
    simp
  · rw [List.drop_of_length_le (by rw [esC_length]; omega), List.drop_of_length_le (by omega)]; rfl
theorem esC_get (l : List Ent) (i j : Nat) (hi : i < l.length) (hj : j < 10) : (esC l)[i * 10 + j]? = l[i].cells[j]? := by
  have h := congrArg (·[j]?) (esC_drop l i)
  simp only [List.getElem?_drop] at h
  rw [h, List.drop_eq_getElem_cons hi, esC_cons, List.getElem?_append_left (by rw [cells_length]; omega)]
theorem esC_one (l : List Ent) : (esC l).all Value.oneCell' = true := by
  induction l with
  | nil => rfl
  | cons x l ih => rw [esC_cons, List.all_append, ih, Bool.and_true]; rfl
theorem esC_src {G : GH} {μ : OH} {A : Option Addr} {c : Nat} {l : List Ent} (hsome : 0 < l.length → A.isSome = true) (hcp : ∀ i (h : i < l.length), CellsG G ((adr A).add (i * 10)) l[i].cells) : Go.Vx.Src G μ (.slice A l.length c) l.length 10 (esC l) := by
  refine ⟨esC_length l, A, c, rfl, fun h => ?_⟩
  obtain ⟨a, rfl⟩ := Option.isSome_iff_exists.1 (hsome h)
  refine ⟨a, rfl, CellsAt.frozen fun p v hv => ?_⟩
  have hp : p < l.length * 10 := by rw [← esC_length]; exact (List.getElem?_eq_some_iff.1 hv).1
  have e : p = p / 10 * 10 + p % 10 := by omega
  rw [e, ← adr_add]
  rw [e, esC_get l (p / 10) (p % 10) (by omega) (by omega)] at hv
  exact hcp (p / 10) (by omega) _ _ hv
theorem es_of_grow {v : Value} {l : List Ent} {ν : OH} (h : Grow 50 10 v l.length (esC l) ν) {G' : GH} (hG : ∀ b o, (b, o) ∈ ν → G' b = some o) (hok : ∀ x ∈ l, x.ok) : Es G' v l := by
  refine h.sl hG (by simp) fun i x cs hx hc => ?_
  rw [List.getElem?_map, hx] at hc
  simp only [Option.map_some, Option.some.injEq] at hc
  subst hc
  exact ⟨rfl, rfl, hok x (List.mem_of_getElem? hx)⟩
abbrev zE : Value := .agg #[.int .i64 0, .int .i64 0, .int .i64 0, .int .i64 0, .int .i64 0, .int .i64 0, .string ByteArray.empty, .string ByteArray.empty, .string ByteArray.empty, .int .i64 0]
theorem entClone_s {G : GH} {l : List Ent} {sv : Value} (hs : Es G sv l) (hn : l.length ≤ 200) : Con Tryd.prog 85 #[sv] G [] (fun r G' μ' => G' = G ∧ Grow 50 10 r l.length (esC l) μ') := by
  obtain ⟨A, c, rfl, hlc, hcm, hsome, hcp, hcb, hcc, hok⟩ := esOpen hs
  simp only [maxLen] at hcm
  refine v_enter Tryd.func85 rfl Tryd.ntmps85 rfl (fun B => ?_)
  cases A with
  | none =>
    have h0 : l.length = 0 := by
      by_cases h : 0 < l.length
      · cases hsome h
      · omega
    have h1 : l = [] := List.eq_nil_of_length_eq_zero h0
    subst h1
    repeat' (first | apply v_seq | apply v_region | apply v_nil | (apply v_pure; (case hop => first | (apply p_move <;> rfl) | (apply p_assign <;> rfl) | (apply p_eqNilSlice <;> rfl)); (case hd => rfl)) | (apply v_condT; (case hc => rfl)) | fail)
    refine v_ret [] (outsA1 rfl rfl) (by repeat (first | exact List.Sublist.refl _ | fail)) ?_
    exact ⟨rfl, Grow.nil _ _⟩
  | some a =>
    have hsrc := fun μ => esC_src (μ := μ) (c := c) hsome hcp
    repeat' (first | apply v_seq | apply v_region | apply v_nil | apply v_skip | (apply v_pure; (case hop => first | (apply p_move <;> rfl) | (apply p_assign <;> rfl) | (apply p_eqNilSlice <;> rfl)); (case hd => rfl)) | (apply v_condF; (case hc => rfl)) | (apply v_buildSlice; (case hz => rfl); (case hi => rfl); (case hv => (simp only [List.map_cons, List.map_nil]; repeat (first | with_reducible exact evs_nil | fail))); (case hp => (first | with_reducible exact pk_nil | fail)); (case hb => rfl); (case hd => rfl); intro b) | fail)
    refine v_append (e := 50) (agg := true) (sz := 10) (bytes := 104) (zero := zE) rfl (by omega) rfl rfl Grow.empty (List.Perm.refl _) (hsrc _) (esC_one l) (by omega) (by simp only [maxLen]; omega) rfl fun v' ν' hg => ?_
    repeat' (first | apply v_nil | (apply v_pure; (case hop => first | (apply p_assign <;> rfl) | fail); (case hd => rfl)) | fail)
    refine v_ret _ (outsA1 rfl rfl) (by repeat (first | exact List.Sublist.refl _ | fail)) ?_
    refine ⟨rfl, ?_⟩
    simpa using hg
theorem p_sliceB {σ : Env} {ty t e : TypeId} {agg : Bool} {sz bytes : Nat} {zero : Value} {x lo : Operand} {b o n c : Nat} {k : IntKind} {z : Int} [Ty Tryd.prog t (.slice e)] [Lay Tryd.prog e agg sz bytes zero] (m : Nat) (hx : Env.ev σ x = some (.slice (some ⟨b, o, none⟩) n c)) (hl : Env.ev σ lo = some (.int k z)) (hz : z = (m : Nat)) (h1 : m ≤ n) (h2 : n ≤ c) (h3 : m < c) :
    PureOp Tryd.prog (.slice t x (some lo) none none) ty σ (.slice (some ⟨b, o + m * sz, none⟩) (n - m) (c - m)) := by
  subst hz
  have h := p_sliceL (P := Tryd.prog) (ty := ty) (t := t) (e := e) (agg := agg) (sz := sz) (bytes := bytes) (zero := zero) hx hl (by omega) (by omega) h2
  simp only [Int.toNat_natCast] at h
  rw [if_neg (by omega), Option.map_some, add_mk] at h
  exact h
theorem p_sliceHB {σ : Env} {ty t e : TypeId} {agg : Bool} {sz bytes : Nat} {zero : Value} {x hi : Operand} {A : Option Addr} {n c : Nat} {k : IntKind} {z : Int} [Ty Tryd.prog t (.slice e)] [Lay Tryd.prog e agg sz bytes zero] (m : Nat) (hx : Env.ev σ x = some (.slice A n c)) (hl : Env.ev σ hi = some (.int k z)) (hz : z = (m : Nat)) (h1 : m ≤ c) :
    PureOp Tryd.prog (.slice t x none (some hi) none) ty σ (.slice A m c) := by
  subst hz
  exact p_sliceH (P := Tryd.prog) (ty := ty) (t := t) (e := e) (agg := agg) (sz := sz) (bytes := bytes) (zero := zero) hx hl (by omega) (by omega)
instance : Overl Tryd.prog 152 50 4 := ⟨_, Tryd.underlying40, fun args w => run_callFunc_extern Tryd.func152 (by kernel_rfl) (by kernel_rfl) (by kernel_rfl) (e := Extern.SlicesOverlaps.overlaps #[40, 40] #[4]) (by kernel_rfl) args w⟩
theorem zeros_length (q : Nat) : (Builtin.zeroCells zE.cells q).toList.length = q * 10 := by rw [Array.length_toList, size_zeroCells]; rfl
/-- What the two copies leave in a row of zeros. -/
theorem ins_row (p z sp a t : List Value) (hz : z.length = a.length + t.length) (h : t.length = z.length - a.length) : over (over (p ++ z ++ sp) p.length a) (p.length + a.length) t = p ++ a ++ t ++ sp := by
  have e1 : over (p ++ z ++ sp) p.length a = p ++ a ++ z.drop a.length ++ sp := by
    unfold over
    rw [List.append_assoc p z sp, List.take_left, ← List.drop_drop, List.drop_left, List.drop_append_of_le_length (by omega)]
    simp
  rw [e1]
  unfold over
  rw [show p.length + a.length = (p ++ a).length by simp, List.append_assoc (p ++ a), List.take_left, ← List.drop_drop, List.drop_left, List.drop_append_of_le_length (by rw [List.length_drop]; omega), List.drop_of_length_le (l := List.drop a.length z) (by rw [List.length_drop]; omega)]
  simp
theorem ins_shift (p t sp a : List Value) (h : a.length ≤ sp.length) : over (over (p ++ t ++ sp) (p.length + a.length) t) p.length a = p ++ a ++ t ++ sp.drop a.length := by
  have e1 : over (p ++ t ++ sp) (p.length + a.length) t = (p ++ (t ++ sp).take a.length) ++ (t ++ sp.drop a.length) := by
    unfold over
    rw [List.append_assoc p t sp, List.take_append, List.take_of_length_le (by omega), show p.length + a.length - p.length = a.length by omega, show p.length + a.length + t.length = p.length + (t.length + a.length) by omega, ← List.drop_drop, List.drop_left, ← List.drop_drop, List.drop_left]
    simp
  have e2 : ((t ++ sp).take a.length).length = a.length := by rw [List.length_take, List.length_append]; omega
  rw [e1]
  unfold over
  rw [List.append_assoc p, List.take_left, show p.length + a.length = (p ++ (t ++ sp).take a.length).length by rw [List.length_append, e2], ← List.append_assoc p, List.drop_left]
  simp
theorem entInsert_s {G : GH} {l : List Ent} {v : Value} {ν : OH} (x : Ent) (b2 i : Nat) (hg : Grow 50 10 v l.length (esC l) ν) (hi : i ≤ l.length) (hn : l.length ≤ 200) :
    Con Tryd.prog 119 #[v, .int .i64 i, .slice (some ⟨b2, 0, none⟩) 1 1] G (ν ++ [(b2, .cells x.cells.toArray 50 (0, 0))]) (fun r G' μ' => G' = G ∧ Grow 50 10 r (l.length + 1) (esC (l.take i ++ x :: l.drop i)) μ') := by
  by_cases hin : i = l.length
  · subst hin
    obtain ⟨A, c, rfl, hc1, hc2⟩ := hg.shape
    simp only [maxLen] at hc2
    refine v_enter Tryd.func119 rfl Tryd.ntmps119 rfl (fun B => ?_)
    repeat' (first | apply v_seq | apply v_region | apply v_nil | apply v_skip | (apply v_pure; (case hop => first | (apply p_move <;> rfl) | (apply p_eqs <;> rfl) | (apply p_eq <;> rfl) | (apply p_assign <;> rfl) | (apply p_lenSlice <;> rfl) | (apply p_sliceL; (case hx => rfl); (case hl => rfl); all_goals omega) | fail); (case hd => rfl)) | (apply v_condT; (case hc => rfl)) | (apply v_cond; (case hc => rfl); all_goals (intro h; (try simp only [reduceCtorEq, dec_true, dec_false, decide_eq_true_eq, decide_eq_false_iff_not, Bool.not_eq_true', Bool.not_eq_false', Option.isNone_iff_eq_none, beq_true, beq_false, beq_iff_eq, beq_eq_false_iff_ne, ne_eq, decide_eq_decide, Bool.not_eq_true, Bool.not_eq_false, Decidable.not_not] at h); first | (exfalso; omega) | skip)) | fail)
    refine v_append (e := 50) (agg := true) (sz := 10) (bytes := 104) (zero := zE) rfl (by omega) rfl rfl hg (List.Perm.refl _) (m' := 1) (us := x.cells) (Src.own (e := 50) (by simp [Has]) rfl) rfl (by omega) (by simp only [maxLen]; omega) rfl fun v' ν' hg' => ?_
    repeat' (first | apply v_nil | (apply v_pure; (case hop => first | (apply p_assign <;> rfl) | fail); (case hd => rfl)) | fail)
    refine v_ret ν' (outsA1 rfl rfl) (by repeat (first | exact List.sublist_append_left _ _ | fail)) ?_
    refine ⟨rfl, ?_⟩
    rw [List.take_length, List.drop_length, esC_append, esC_cons]
    simpa [esC] using hg'
  · have hlt : i < l.length := by omega
    obtain ⟨hxl, ⟨rfl, h0, rfl⟩ | ⟨b, cap, spare, rfl, rfl, hc1, hc2, hc3⟩⟩ := hg
    · omega
    simp only [maxLen] at hc2
    simp only [List.singleton_append]
    rw [List.length_append, esC_length] at hc3
    by_cases hroom : cap < l.length + 1
    · refine v_enter Tryd.func119 rfl Tryd.ntmps119 rfl (fun B => ?_)
      repeat' (first | (apply v_pure; (case hop => (apply p_sliceB i; (case hx => rfl); (case hl => rfl); (case hz => omega); (case h1 => omega); (case h2 => omega); (case h3 => omega))); (case hd => rfl)) | (apply v_pure; (case hop => (apply p_sliceHB i; (case hx => rfl); (case hl => rfl); (case hz => omega); (case h1 => omega))); (case hd => rfl)) | apply v_seq | apply v_region | apply v_nil | apply v_skip | (apply v_pure; (case hop => first | (apply p_move <;> rfl) | (apply p_eq <;> rfl) | (apply p_gt <;> rfl) | (apply p_assign <;> rfl) | (apply p_lenSlice <;> rfl) | (apply p_add; (case hx => rfl); (case hy => rfl); (case h => omega)) | (apply p_sub; (case hx => rfl); (case hy => rfl); (case h => omega)) | (apply p_capSlice <;> rfl) | fail); (case hd => rfl)) | (apply v_cond; (case hc => rfl); all_goals (intro h; (try simp only [reduceCtorEq, dec_true, dec_false, decide_eq_true_eq, decide_eq_false_iff_not, Bool.not_eq_true', Bool.not_eq_false', Option.isNone_iff_eq_none, beq_true, beq_false, beq_iff_eq, beq_eq_false_iff_ne, ne_eq, decide_eq_decide, Bool.not_eq_true, Bool.not_eq_false, Decidable.not_not] at h); first | (exfalso; omega) | skip)) | fail)
      refine v_appendZ (e := 50) (agg := true) (sz := 10) (bytes := 104) (zero := zE) (q := l.length + 1 - i) (xs := esC (l.take i)) rfl (by omega) rfl rfl (by omega) ?_ (by omega) (by omega) (by omega) (by simp only [maxLen]; omega) rfl fun b3 c3 sp3 hd1 hd2 hd3 => ?_
      · refine Src.ownAt (vs := esC l ++ spare) (e := 50) (by simp [Has]) ?_ (by rw [esC_length, List.length_take]; omega)
        rw [List.drop_zero, List.take_append_of_le_length (by omega), esC_take]
      simp only [maxLen] at hd2
      have zl := zeros_length (l.length + 1 - i)
      have tl : (esC (l.take i)).length = i * 10 := by rw [esC_length, List.length_take]; omega
      repeat' (first | (apply v_pure; (case hop => (apply p_sliceB i; (case hx => rfl); (case hl => rfl); (case hz => omega); (case h1 => omega); (case h2 => omega); (case h3 => omega))); (case hd => rfl)) | apply v_seq | apply v_region | apply v_nil | (apply v_pure; (case hop => first | (apply p_move <;> rfl) | (apply p_assign <;> rfl) | fail); (case hd => rfl)) | fail)
      refine v_copy (e := 50) (agg := true) (sz := 10) (bytes := 104) (zero := zE) (q := 1) rfl rfl (show min 1 _ = 1 by omega) (by omega) (us := x.cells) (Src.own (e := 50) (by simp [Has]) rfl) (by (repeat (first | exact List.Mem.head _ | fail))) rfl (by simp only [List.length_append, zl, tl]; omega) rfl (by (repeat (first | exact Upd.here _ _ | fail))) rfl ?_
      repeat' (first | apply v_seq | apply v_nil | fail)
      have hus : ((esC l ++ spare).drop (0 + i * 10)).take ((l.length - i) * 10) = esC (l.drop i) := by
        rw [Nat.zero_add, List.drop_append_of_le_length (by omega), esC_drop, List.take_append_of_le_length (by rw [esC_length, List.length_drop]; omega), List.take_of_length_le (by rw [esC_length, List.length_drop]; omega)]
      have dl : (esC (l.drop i)).length = (l.length - i) * 10 := by rw [esC_length, List.length_drop]
      refine d_start [] (by kernel_rfl) (by kernel_rfl) (by intro e he; first | (simp at he ⊢; try omega)) ?_
      all_goals (first | (apply d_take 0; (case hi => rfl); (case hop => first | (apply PureOp.read; apply p_move <;> rfl)); (case hf => kernel_rfl); (case hr => kernel_rfl); (case hd => rfl)) | fail)
      all_goals (first | (apply d_take 1; (case hi => rfl); (case hop => first | (apply PureOp.read; apply p_move <;> rfl)); (case hf => kernel_rfl); (case hr => kernel_rfl); (case hd => rfl)) | fail)
      all_goals (first | (apply d_take 2; (case hi => rfl); (case hop => first | (apply PureOp.read; apply p_move <;> rfl)); (case hf => kernel_rfl); (case hr => kernel_rfl); (case hd => rfl)) | fail)
      all_goals (first | (apply d_take 3; (case hi => rfl); (case hop => first | (apply PureOp.read; apply p_add; (case hx => rfl); (case hy => rfl); (case h => omega))); (case hf => kernel_rfl); (case hr => kernel_rfl); (case hd => rfl)) | fail)
      all_goals (first | (apply d_take 4; (case hi => rfl); (case hop => first | ((apply PureOp.read; apply p_sliceB (i + 1); (case hx => rfl); (case hl => rfl); (case hz => omega); (case h1 => omega); (case h2 => omega); (case h3 => omega))) | fail); (case hf => kernel_rfl); (case hr => kernel_rfl); (case hd => rfl)) | fail)
      all_goals (first | (apply d_take 5; (case hi => rfl); (case hop => first | (apply PureOp.read; apply p_move <;> rfl)); (case hf => kernel_rfl); (case hr => kernel_rfl); (case hd => rfl)) | fail)
      all_goals (first | (apply d_take 6; (case hi => rfl); (case hop => first | (apply PureOp.read; apply p_move <;> rfl)); (case hf => kernel_rfl); (case hr => kernel_rfl); (case hd => rfl)) | fail)
      all_goals (first | (apply d_take 7; (case hi => rfl); (case hop => first | ((apply PureOp.read; apply p_sliceB i; (case hx => rfl); (case hl => rfl); (case hz => omega); (case h1 => omega); (case h2 => omega); (case h3 => omega))) | fail); (case hf => kernel_rfl); (case hr => kernel_rfl); (case hd => rfl)) | fail)
      all_goals (first | ((apply d_copy 8 (e := 50) (agg := true) (sz := 10) (bytes := 104) (zero := zE) (m' := l.length - i) (q := l.length - i) (us := esC (l.drop i)); (case hi => rfl); (case hr => kernel_rfl);  (case hT => infer_instance); (case hL => infer_instance); (case hy => rfl); (case hx => rfl); (case hq => (show min _ _ = _); omega); (case hm => omega); (case hsrc => exact Src.ownAt (vs := esC l ++ spare) (e := 50) (by (repeat (first | exact List.Mem.head _ | apply List.Mem.tail))) hus dl); (case hb => (repeat (first | exact List.Mem.head _ | fail))); (case h1 => rw [List.take_of_length_le (by omega)]; exact esC_one _); (case hfit => simp only [over, List.length_append, List.length_take, List.length_drop, zl, tl, cells_length]; omega); (case hov => rfl); (case hu => (repeat (first | exact Upd.here _ _ | fail))); (case hd => rfl); (case hν' => intro e he; cases he))) | fail)
      all_goals (apply d_done; (case hr => kernel_rfl))
      repeat' (first | apply v_seq | apply v_region | apply v_nil | (apply v_pure; (case hop => first | (apply p_move <;> rfl) | (apply p_assign <;> rfl) | fail); (case hd => rfl)) | fail)
      refine v_ret [(b3, _)] (outsA1 rfl rfl) (by repeat (first | exact List.nil_sublist _ | apply List.Sublist.cons_cons | fail)) ?_
      refine ⟨rfl, ?_⟩
      have el : (esC (l.take i ++ x :: l.drop i)) = esC (l.take i) ++ x.cells ++ esC (l.drop i) := by rw [esC_append, esC_cons, List.append_assoc]
      have e := ins_row (esC (l.take i)) (Builtin.zeroCells zE.cells (l.length + 1 - i)).toList sp3 x.cells (esC (l.drop i)) (by rw [zl, dl, cells_length]; omega) (by rw [zl, dl, cells_length]; omega)
      rw [tl, cells_length] at e
      rw [show 0 + (i + 1) * 10 = i * 10 + 10 by omega, show 0 + i * 10 = i * 10 by omega, List.take_of_length_le (l := esC (l.drop i)) (by omega), show x.cells.take (1 * 10) = x.cells from rfl, e, show i + (l.length + 1 - i) = l.length + 1 by omega]
      refine ⟨by rw [el, List.length_append, List.length_append, tl, dl, cells_length]; omega, .inr ⟨b3, c3, sp3, rfl, by rw [el], by omega, by simp only [maxLen]; omega, ?_⟩⟩
      simp only [List.length_append, zl, tl] at hd3
      rw [el]
      simp only [List.length_append, tl, dl, cells_length]
      omega
    · refine v_enter Tryd.func119 rfl Tryd.ntmps119 rfl (fun B => ?_)
      repeat' (first | (apply v_pure; (case hop => (apply p_sliceB i; (case hx => rfl); (case hl => rfl); (case hz => omega); (case h1 => omega); (case h2 => omega); (case h3 => omega))); (case hd => rfl)) | (apply v_pure; (case hop => (apply p_sliceB (i + 1); (case hx => rfl); (case hl => rfl); (case hz => omega); (case h1 => omega); (case h2 => omega); (case h3 => omega))); (case hd => rfl)) | (apply v_pure; (case hop => (apply p_sliceHB (l.length + 1); (case hx => rfl); (case hl => rfl); (case hz => omega); (case h1 => omega))); (case hd => rfl)) | apply v_seq | apply v_region | apply v_nil | apply v_skip | (apply v_pure; (case hop => first | (apply p_move <;> rfl) | (apply p_eq <;> rfl) | (apply p_gt <;> rfl) | (apply p_assign <;> rfl) | (apply p_lenSlice <;> rfl) | (apply p_add; (case hx => rfl); (case hy => rfl); (case h => omega)) | (apply p_capSlice <;> rfl) | fail); (case hd => rfl)) | (apply v_cond; (case hc => rfl); all_goals (intro h; (try simp only [reduceCtorEq, dec_true, dec_false, decide_eq_true_eq, decide_eq_false_iff_not, Bool.not_eq_true', Bool.not_eq_false', Option.isNone_iff_eq_none, beq_true, beq_false, beq_iff_eq, beq_eq_false_iff_ne, ne_eq, decide_eq_decide, Bool.not_eq_true, Bool.not_eq_false, Decidable.not_not] at h); first | (exfalso; omega) | skip)) | fail)
      refine v_ne (b' := b2) (by simp) fun hne => ?_
      refine v_apart (e := 50) (agg := true) (sz := 10) (bytes := 104) (zero := zE) rfl rfl (by (repeat (first | exact List.Mem.head _ | apply List.Mem.tail))) (by (repeat (first | exact List.Mem.head _ | fail))) hne (fun h => by have := congrArg List.length h; rw [List.length_append, esC_length, List.length_nil] at this; omega) rfl ?_
      repeat' (first | apply v_seq | apply v_nil | (apply v_pure; (case hop => first | (apply p_not <;> rfl) | fail); (case hd => rfl)) | (apply v_condT; (case hc => rfl)) | fail)
      have tl : (esC (l.take i)).length = i * 10 := by rw [esC_length, List.length_take]; omega
      have dl : (esC (l.drop i)).length = (l.length - i) * 10 := by rw [esC_length, List.length_drop]
      have hus : (((esC l ++ spare).drop (0 + i * 10)).take ((l.length + 1 - i) * 10)).take ((l.length - i) * 10) = esC (l.drop i) := by
        rw [List.take_take, Nat.zero_add, Nat.min_eq_left (by omega), List.drop_append_of_le_length (by omega), esC_drop, List.take_append_of_le_length (by omega), List.take_of_length_le (by omega)]
      refine d_start [] (by kernel_rfl) (by kernel_rfl) (by intro e he; first | (simp at he ⊢; try omega)) ?_
      all_goals (first | (apply d_take 0; (case hi => rfl); (case hop => first | (apply PureOp.read; apply p_move <;> rfl)); (case hf => kernel_rfl); (case hr => kernel_rfl); (case hd => rfl)) | fail)
      all_goals (first | (apply d_take 1; (case hi => rfl); (case hop => first | (apply PureOp.read; apply p_move <;> rfl)); (case hf => kernel_rfl); (case hr => kernel_rfl); (case hd => rfl)) | fail)
      all_goals (first | (apply d_take 2; (case hi => rfl); (case hop => first | (apply PureOp.read; apply p_move <;> rfl)); (case hf => kernel_rfl); (case hr => kernel_rfl); (case hd => rfl)) | fail)
      all_goals (first | (apply d_take 3; (case hi => rfl); (case hop => first | (apply PureOp.read; apply p_add; (case hx => rfl); (case hy => rfl); (case h => omega))); (case hf => kernel_rfl); (case hr => kernel_rfl); (case hd => rfl)) | fail)
      all_goals (first | (apply d_take 4; (case hi => rfl); (case hop => first | ((apply PureOp.read; apply p_sliceB (i + 1); (case hx => rfl); (case hl => rfl); (case hz => omega); (case h1 => omega); (case h2 => omega); (case h3 => omega))) | fail); (case hf => kernel_rfl); (case hr => kernel_rfl); (case hd => rfl)) | fail)
      all_goals (first | (apply d_take 5; (case hi => rfl); (case hop => first | (apply PureOp.read; apply p_move <;> rfl)); (case hf => kernel_rfl); (case hr => kernel_rfl); (case hd => rfl)) | fail)
      all_goals (first | (apply d_take 6; (case hi => rfl); (case hop => first | (apply PureOp.read; apply p_move <;> rfl)); (case hf => kernel_rfl); (case hr => kernel_rfl); (case hd => rfl)) | fail)
      all_goals (first | (apply d_take 7; (case hi => rfl); (case hop => first | ((apply PureOp.read; apply p_sliceB i; (case hx => rfl); (case hl => rfl); (case hz => omega); (case h1 => omega); (case h2 => omega); (case h3 => omega))) | fail); (case hf => kernel_rfl); (case hr => kernel_rfl); (case hd => rfl)) | fail)
      all_goals (first | ((apply d_copy 8 (e := 50) (agg := true) (sz := 10) (bytes := 104) (zero := zE) (m' := l.length + 1 - i) (q := l.length - i) (us := ((esC l ++ spare).drop (0 + i * 10)).take ((l.length + 1 - i) * 10)); (case hi => rfl); (case hr => kernel_rfl);  (case hT => infer_instance); (case hL => infer_instance); (case hy => rfl); (case hx => rfl); (case hq => (show min _ _ = _); omega); (case hm => omega); (case hsrc => exact Src.ownAt (vs := esC l ++ spare) (e := 50) (by (repeat (first | exact List.Mem.head _ | fail))) rfl (by simp only [List.length_take, List.length_drop, List.length_append, esC_length]; omega)); (case hb => (repeat (first | exact List.Mem.head _ | fail))); (case h1 => rw [hus]; exact esC_one _); (case hfit => rw [List.length_append, esC_length]; omega); (case hov => rw [hus]); (case hu => (repeat (first | exact Upd.here _ _ | fail))); (case hd => rfl); (case hν' => intro e he; cases he))) | fail)
      all_goals (apply d_done; (case hr => kernel_rfl))
      repeat' (first | (apply v_pure; (case hop => (apply p_sliceB i; (case hx => rfl); (case hl => rfl); (case hz => omega); (case h1 => omega); (case h2 => omega); (case h3 => omega))); (case hd => rfl)) | apply v_seq | apply v_region | (apply v_pure; (case hop => first | (apply p_move <;> rfl) | fail); (case hd => rfl)) | fail)
      refine v_copy (e := 50) (agg := true) (sz := 10) (bytes := 104) (zero := zE) (q := 1) rfl rfl (show min 1 _ = 1 by omega) (by omega) (us := x.cells) (Src.own (e := 50) (by simp [Has]) rfl) (by (repeat (first | exact List.Mem.head _ | fail))) rfl (by rw [over_length (by rw [List.length_append, hxl, dl]; omega), List.length_append, hxl]; omega) rfl (by (repeat (first | exact Upd.here _ _ | fail))) rfl ?_
      repeat' (first | apply v_seq | apply v_region | apply v_nil | (apply v_pure; (case hop => first | (apply p_move <;> rfl) | (apply p_assign <;> rfl) | fail); (case hd => rfl)) | fail)
      refine v_ret [(b, _)] (outsA1 rfl rfl) (by repeat (first | exact List.nil_sublist _ | apply List.Sublist.cons_cons | fail)) ?_
      refine ⟨rfl, ?_⟩
      have el : (esC (l.take i ++ x :: l.drop i)) = esC (l.take i) ++ x.cells ++ esC (l.drop i) := by rw [esC_append, esC_cons, List.append_assoc]
      have e := ins_shift (esC (l.take i)) (esC (l.drop i)) spare x.cells (by rw [cells_length]; omega)
      rw [tl, cells_length, ← esC_append, List.take_append_drop] at e
      rw [show 0 + (i + 1) * 10 = i * 10 + 10 by omega, show 0 + i * 10 = i * 10 by omega, show x.cells.take (1 * 10) = x.cells from rfl, e]
      refine ⟨by rw [el, List.length_append, List.length_append, tl, dl, cells_length]; omega, .inr ⟨b, cap, spare.drop 10, rfl, by rw [el], by omega, by simp only [maxLen]; omega, ?_⟩⟩
      rw [el]
      simp only [List.length_append, List.length_drop, tl, dl, cells_length]
      omega
end Go.Proofs.YtnoiahlpmgbhfaaDoor
/-
  entry (layer 12), the sixth part: With; the example.
-/
set_option linter.unusedSimpArgs false
set_option linter.unusedVariables false
namespace Go.Proofs.YtnoiahlpmgbhfaaDoor
open Go.Vx Go.ChangeShapes Go.WideShapes Go.ChangeAt Go.RowKit
/-- Entries with another one. -/
noncomputable def withL (l : List Ent) (x : Ent) : List Ent := if hitB l x.index = true then l.set (placeN l x.index) x else l.take (placeN l x.index) ++ x :: l.drop (placeN l x.index)
theorem hitB_lt {l : List Ent} {n : Int} (h : hitB l n = true) : placeN l n < l.length := by
  unfold hitB at h
  by_cases h' : placeN l n < l.length
  · exact h'
  · rw [dif_neg h'] at h; cases h
theorem placeN_le (l : List Ent) (n : Int) : placeN l n ≤ l.length := List.countP_le_length
theorem withL_len (l : List Ent) (x : Ent) : (withL l x).length = if hitB l x.index = true then l.length else l.length + 1 := by
  unfold withL
  have := placeN_le l x.index
  split
  · simp
  · simp; omega
theorem esC_set (l : List Ent) (x : Ent) (sp : List Value) (p : Nat) (hp : p < l.length) : over (esC l ++ sp) (p * 10) x.cells = esC (l.set p x) ++ sp := by
  have e : l.set p x = l.take p ++ x :: l.drop (p + 1) := List.set_eq_take_append_cons_drop.trans (if_pos hp)
  have e1 : (esC l ++ sp).take (p * 10) = esC (l.take p) := by rw [List.take_append_of_le_length (by rw [esC_length]; omega), esC_take]
  have e2 : (esC l ++ sp).drop (p * 10 + x.cells.length) = esC (l.drop (p + 1)) ++ sp := by
    rw [cells_length, show p * 10 + 10 = (p + 1) * 10 by omega, List.drop_append_of_le_length (by rw [esC_length]; omega), esC_drop]
  rw [over, e1, e2, e, esC_append, esC_cons]
  simp
theorem with_s {G : GH} {l : List Ent} {sv : Value} (x : Ent) (hs : Es G sv l) (hr : RiseL l) (hn : l.length ≤ 200) : Con Tryd.prog 73 #[sv, .agg x.cells.toArray] G [] (fun r G' μ' => G' = G ∧ Grow 50 10 r (withL l x).length (esC (withL l x)) μ') := by
  have qp := place_s x.index hs hr
  have qc := entClone_s hs hn
  have hlp := placeN_le l x.index
  refine v_enter Tryd.func73 rfl Tryd.ntmps73 rfl (fun B => ?_)
  repeat' (first | apply v_seq | apply v_region | apply v_nil | (apply v_pure; (case hop => first | (apply p_move <;> rfl) | (apply p_assign <;> rfl) | (apply p_fieldAddrB <;> rfl) | (apply p_extract0 <;> rfl) | (apply p_extract1 <;> rfl) | fail); (case hd => rfl)) | (apply v_box (zs := x.cells); (case hx => rfl); (case hz => rfl); (case hd => rfl); intro bx) | (apply v_callJ (hs := qp); (case ha => rfl); (case hd => rfl)) | (apply v_read; (case hop => first | (apply r_load1; rfl; (apply Cell.own; (case h => (repeat (first | exact List.Mem.head _ | fail))); rfl)) | fail); (case hd => rfl)) | fail)
  refine v_call (μ1 := []) (μ2 := _) rfl qc (List.Perm.refl _) rfl ?_
  rintro r G' μ1 _ ⟨rfl, hg⟩
  clear qp qc
  cases hh : hitB l x.index
  · have el : withL l x = l.take (placeN l x.index) ++ x :: l.drop (placeN l x.index) := by rw [withL, if_neg (by rw [hh]; decide)]
    have ell : (withL l x).length = l.length + 1 := by rw [withL_len, if_neg (by rw [hh]; decide)]
    rw [ell, el]
    generalize placeN l x.index = p at *
    obtain ⟨A, c, rfl, hc1, hc2⟩ := hg.shape
    repeat' (first | apply v_seq | apply v_region | apply v_nil | apply v_skip | (apply v_pure; (case hop => first | (apply p_move <;> rfl) | (apply p_assign <;> rfl) | fail); (case hd => rfl)) | (apply v_condF; (case hc => rfl)) | (apply v_read; (case hop => first | (apply r_loadNo; (case hx => rfl); (case h => (repeat (first | exact List.Mem.head _ | apply List.mem_append_right))); (case hd => (repeat (first | with_reducible exact dt_nil | apply dt_here | fail))); (case hn => rfl)) | fail); (case hd => rfl)) | (apply v_buildSlice; (case hz => rfl); (case hi => rfl); (case hv => (simp only [List.map_cons, List.map_nil]; repeat (first | with_reducible exact evs_nil | (apply evs_cons; (case h1 => rfl))))); (case hp => (first | (apply pk_cons; (case hc => rfl); (case hs => rfl); (case h => (first | with_reducible exact pk_nil | fail)); (case he => (first | ((repeat (first | with_reducible exact ap_nil | apply ap_cons)); done) | fail))) | fail)); (case hb => rfl); (case hd => rfl); intro b) | fail)
    refine v_call (μ1 := μ1 ++ [(b, .cells x.cells.toArray 50 (0, 0))]) (μ2 := [(bx, .cells x.cells.toArray 50 (0, 0))]) rfl (entInsert_s x b p hg hlp hn) (show List.Perm ((b, Obj.cells x.cells.toArray 50 (0, 0)) :: (μ1 ++ [(bx, Obj.cells x.cells.toArray 50 (0, 0))])) _ from (by apply perm_of_count; intro p; simp only [List.countP_append, List.countP_cons, List.countP_nil, Nat.zero_add, Nat.add_zero]; try ac_rfl)) rfl ?_
    rintro r' G1 μ2 _ ⟨rfl, hg'⟩
    repeat' (first | apply v_nil | (apply v_pure; (case hop => first | (apply p_assign <;> rfl) | fail); (case hd => rfl)) | fail)
    refine v_ret μ2 (outsA1 rfl rfl) (by repeat (first | exact List.sublist_append_left _ _ | fail)) ?_
    exact ⟨rfl, hg'⟩
  · have el : withL l x = l.set (placeN l x.index) x := by rw [withL, if_pos hh]
    have hlt := hitB_lt hh
    rw [el, List.length_set]
    generalize placeN l x.index = p at *
    obtain ⟨hxl, ⟨rfl, h0, rfl⟩ | ⟨b1, cap, spare, rfl, rfl, hc1, hc2, hc3⟩⟩ := hg
    · omega
    simp only [maxLen] at hc2
    simp only [List.singleton_append]
    rw [List.length_append, esC_length] at hc3
    repeat' (first | apply v_seq | apply v_region | apply v_nil | (apply v_pure; (case hop => first | (apply p_move <;> rfl) | (apply p_assign <;> rfl) | (apply p_indexAddr; (case hx => rfl); (case hi => rfl); (case h0 => omega); (case h => omega)) | fail); (case hd => rfl)) | (apply v_condT; (case hc => rfl)) | (apply v_read; (case hop => first | (apply r_loadNo; (case hx => rfl); (case h => (repeat (first | exact List.Mem.head _ | apply List.Mem.tail | fail))); (case hd => (repeat (first | with_reducible exact dt_nil | apply dt_here | fail))); (case hn => rfl)) | fail); (case hd => rfl)) | fail)
    refine v_store (agg := true) (sz := 10) (bytes := 104) (zero := zE) (b := b1) (i := p * 10) (us := x.cells) (vs' := esC (l.set p x) ++ spare) (show some (Value.pointer (some ((⟨b1, 0, none⟩ : Addr).add (p * 10)))) = _ by rw [add_mk, Nat.zero_add]) rfl rfl rfl rfl (by (repeat (first | exact List.Mem.head _ | fail))) (by rw [cells_length, List.length_append, hxl]; omega) (esC_set l x spare p hlt) (by (repeat (first | exact Upd.here _ _ | fail))) ?_
    repeat' (first | apply v_seq | apply v_region | apply v_nil | (apply v_pure; (case hop => first | (apply p_move <;> rfl) | (apply p_assign <;> rfl) | fail); (case hd => rfl)) | fail)
    refine v_ret [(b1, _)] (outsA1 rfl rfl) (by repeat (first | exact List.nil_sublist _ | apply List.Sublist.cons_cons | fail)) ?_
    exact ⟨rfl, by rw [esC_length, List.length_set], .inr ⟨b1, cap, spare, rfl, rfl, hc1, by simp only [maxLen]; omega, by rw [List.length_append, esC_length, List.length_set]; omega⟩⟩
/-! ### The example -/
end Go.Proofs.YtnoiahlpmgbhfaaDoor
