/-
  Texts (layer 5), the second part: what the reference's readers answer.
-/
import Derived.Test.YtfckggkmiegokaaDoorTextA
set_option linter.unusedSimpArgs false
set_option linter.unusedVariables false
namespace Go.Proofs.YtfckggkmiegokaaDoor
open Go.Vx Go.ChangeShapes Go.WideShapes Go.ChangeAt Go.RowKit
def szV (s : ByteArray) (i : Nat) : Value := .tuple [.int .i64 ((szR s i).1 : Int), .int .i64 ((szR s i).2 : Int)].toArray
theorem szV_of {s : ByteArray} {i a b : Nat} (h : szR s i = (a, b)) {x y : Int} (hx : x = a) (hy : y = b) : Value.tuple #[.int .i64 x, .int .i64 y] = szV s i := by
  unfold szV; rw [h, hx, hy]
theorem acc_lt (s : ByteArray) (i v : Nat) (hv : v < 256) : ∀ k, k ≤ 3 → acc s i v k < 256 * 128 ^ k
  | 0, _ => by
    show v < 256 * 128 ^ 0
    omega
  | k + 1, hk => by
    have ih := acc_lt s i v hv k (by omega)
    have h1 := byt_lt s (i + (k + 1))
    have h2 : (128 : Nat) ^ (k + 1) = 128 * 128 ^ k := by rw [Nat.pow_succ, Nat.mul_comm]
    have h3 : 0 < (128 : Nat) ^ k := Nat.pos_of_ne_zero (by simp)
    have h4 : acc s i v (k + 1) = 64 * acc s i v k + byt s (i + (k + 1)) - 128 := rfl
    omega
theorem acc_lt3 (s : ByteArray) (i v : Nat) (hv : v < 256) (k : Nat) (hk : k ≤ 3) : acc s i v k < 536870912 := by
  have := acc_lt s i v hv k hk
  have h2 : (128 : Nat) ^ k ≤ 128 ^ 3 := Nat.pow_le_pow_right (by omega) hk
  have h3 : (128 : Nat) ^ 3 = 2097152 := by decide
  omega
theorem contB_mono {s : ByteArray} {i m : Nat} (h : contB s i m = true) : ∀ {k}, k ≤ m → contB s i k = true := by
  induction m with
  | zero =>
    intro k hk
    have e : k = 0 := by omega
    rw [e]; exact h
  | succ m ih =>
    intro k hk
    by_cases e : k = m + 1
    · subst e; exact h
    · refine ih ?_ (by omega)
      have h2 : (contB s i m && (decide (128 ≤ byt s (i + (m + 1))) && decide (byt s (i + (m + 1)) ≤ 191))) = true := h
      rw [Bool.and_eq_true] at h2
      exact h2.1
theorem size_s {G : GH} {s : ByteArray} {i : Nat} (hi : i < s.size) (hs : s.size ≤ 1000000) : Con Tryd.prog 102 #[.string s, .int .i64 (i : Int)] G [] (Just (szV s i) G) := by
  have b0 := byt_lt s i
  have ei : ((i : Nat) : Int).toNat = i := Int.toNat_natCast i
  refine v_enter Tryd.func102 rfl Tryd.ntmps102 rfl (fun B => ?_)
  repeat' (first | apply v_seq | apply v_region | apply v_nil | apply v_skip | apply v_block | apply v_blk | (apply v_exit; (case hp => rfl)) | (apply v_take; (case hg => rfl)) | (apply v_pass; (case hg => rfl); (case hn => rfl); (case hd => rfl)) | (apply v_passN; (case hg => rfl); (case hn => rfl); (case hd => rfl)) | (apply v_pure; (case hop => first | (apply p_move <;> rfl) | (apply p_lt <;> rfl) | (apply p_gt <;> rfl) | (apply p_le <;> rfl) | (apply p_ge <;> rfl) | (apply p_assign <;> rfl) | (apply p_pickT <;> rfl) | (apply p_pickF <;> rfl) | (apply p_lenSlice <;> rfl) | (apply p_add; (case hx => rfl); (case hy => rfl); (case h => omega)) | (apply p_sub; (case hx => rfl); (case hy => rfl); (case h => omega)) | (apply p_lenString <;> rfl) | (apply p_convS <;> rfl) | (apply p_convB <;> rfl) | (apply p_conv64; (case hx => rfl); (case h => omega)) | (apply p_pickAnd <;> rfl) | (apply p_pickOr <;> rfl) | (apply p_indexSn; (case hx => rfl); (case hi => rfl); all_goals omega) | (apply p_indexSb; (case hx => rfl); (case hi => rfl); all_goals omega) | (apply p_mul; (case hx => rfl); (case hy => rfl); (case h => omega))); (case hd => rfl)) | (apply v_condT; (case hc => rfl)) | (apply v_condF; (case hc => rfl)) | (apply v_cond; (case hc => rfl); all_goals (intro h; (try simp only [reduceCtorEq, dec_true, dec_false, decide_eq_true_eq, decide_eq_false_iff_not, Bool.not_eq_true', Bool.not_eq_false', Option.isNone_iff_eq_none, beq_true, beq_false, beq_iff_eq, beq_eq_false_iff_ne, ne_eq, decide_eq_decide, Bool.not_eq_true, Bool.not_eq_false, Decidable.not_not] at h); first | done | (exfalso; omega) | (exfalso; exact h (by with_reducible assumption)) | (exfalso; revert h; rw [imp_false]; with_reducible assumption) | skip)) | (apply v_guardB; (case h1 => rfl); (case h2 => rfl); all_goals (intro h; (try simp only [reduceCtorEq, dec_true, dec_false, decide_eq_true_eq, decide_eq_false_iff_not, Bool.not_eq_true', Bool.not_eq_false', Option.isNone_iff_eq_none, beq_true, beq_false, beq_iff_eq, beq_eq_false_iff_ne, ne_eq, decide_eq_decide, Bool.not_eq_true, Bool.not_eq_false, Decidable.not_not] at h); first | done | (exfalso; omega) | (exfalso; exact h (by with_reducible assumption)) | (exfalso; revert h; rw [imp_false]; with_reducible assumption) | skip)) | fail)
  all_goals try
    (refine v_ret [] (outsA2 rfl rfl rfl) (by repeat (first | exact List.Sublist.refl _ | exact List.nil_sublist _ | apply List.Sublist.cons_cons | apply List.Sublist.cons | exact List.sublist_append_left _ _ | apply List.sublist_append_of_sublist_right)) ?_
     refine ⟨szV_of (a := 1) (b := byt s i) ?_ rfl rfl, rfl, rfl⟩
     unfold szR
     rw [if_pos (by omega)])
  all_goals try
    (refine v_ret [] (outsA2 rfl rfl rfl) (by repeat (first | exact List.Sublist.refl _ | exact List.nil_sublist _ | apply List.Sublist.cons_cons | apply List.Sublist.cons | exact List.sublist_append_left _ _ | apply List.sublist_append_of_sublist_right)) ?_
     refine ⟨szV_of (a := 0) (b := 0) ?_ rfl rfl, rfl, rfl⟩
     unfold szR
     first
       | rw [if_neg (show ¬ byt s i < 128 by omega), if_pos (show 194 ≤ byt s i ∧ byt s i ≤ 223 by omega), szFin_short (by omega)]
       | rw [if_neg (show ¬ byt s i < 128 by omega), if_neg (show ¬ (194 ≤ byt s i ∧ byt s i ≤ 223) by omega), if_pos (show 224 ≤ byt s i ∧ byt s i ≤ 239 by omega), szFin_short (by omega)]
       | rw [if_neg (show ¬ byt s i < 128 by omega), if_neg (show ¬ (194 ≤ byt s i ∧ byt s i ≤ 223) by omega), if_neg (show ¬ (224 ≤ byt s i ∧ byt s i ≤ 239) by omega), if_pos (show 240 ≤ byt s i ∧ byt s i ≤ 244 by omega), szFin_short (by omega)]
       | rw [if_neg (show ¬ byt s i < 128 by omega), if_neg (show ¬ (194 ≤ byt s i ∧ byt s i ≤ 223) by omega), if_neg (show ¬ (224 ≤ byt s i ∧ byt s i ≤ 239) by omega), if_neg (show ¬ (240 ≤ byt s i ∧ byt s i ≤ 244) by omega)])
  all_goals
    (refine v_loop [10, 9, 7, 8, 0, 1] (fun us G' μ' => G' = G ∧ μ' = [] ∧ ∃ (k m low v : Nat) (x N L : Int), us = [Value.int .i64 ((k : Int) + 1), .int .i64 x, .int .i64 N, .int .i64 L, .string s, .int .i64 (i : Int)] ∧ N = (m : Int) + 1 ∧ L = low ∧ x = (acc s i v k : Nat) ∧ k ≤ m ∧ m ≤ 3 ∧ v < 256 ∧ i + (m + 1) ≤ s.size ∧ contB s i k = true ∧ szR s i = szFin s i m low v) (fun us => 5 - (headI us).toNat) rfl ?_ ?_
     · refine ⟨rfl, rfl, ?_⟩
       first
         | exact ⟨0, 1, 128, byt s i - 192, _, _, _, rfl, rfl, rfl, by show _ = ((byt s i - 192 : Nat) : Int); omega, by omega, by omega, by omega, by omega, rfl, by unfold szR; rw [if_neg (show ¬ byt s i < 128 by omega), if_pos (show 194 ≤ byt s i ∧ byt s i ≤ 223 by omega)]⟩
         | exact ⟨0, 2, 2048, byt s i - 224, _, _, _, rfl, rfl, rfl, by show _ = ((byt s i - 224 : Nat) : Int); omega, by omega, by omega, by omega, by omega, rfl, by unfold szR; rw [if_neg (show ¬ byt s i < 128 by omega), if_neg (show ¬ (194 ≤ byt s i ∧ byt s i ≤ 223) by omega), if_pos (show 224 ≤ byt s i ∧ byt s i ≤ 239 by omega)]⟩
         | exact ⟨0, 3, 65536, byt s i - 240, _, _, _, rfl, rfl, rfl, by show _ = ((byt s i - 240 : Nat) : Int); omega, by omega, by omega, by omega, by omega, rfl, by unfold szR; rw [if_neg (show ¬ byt s i < 128 by omega), if_neg (show ¬ (194 ≤ byt s i ∧ byt s i ≤ 223) by omega), if_neg (show ¬ (224 ≤ byt s i ∧ byt s i ≤ 239) by omega), if_pos (show 240 ≤ byt s i ∧ byt s i ≤ 244 by omega)]⟩
     rintro us G' μ' ⟨rfl, rfl, k, m, low, v, x, N, L, rfl, rfl, rfl, rfl, hk, hm, hv, him, hcb, hsz⟩
     have ha := acc_lt3 s i v hv k (by omega)
     have bk := byt_lt s (i + (k + 1))
     have ek : ((i : Int) + ((k : Int) + 1)).toNat = i + (k + 1) := by omega
     have hacc : acc s i v (k + 1) = 64 * acc s i v k + byt s (i + (k + 1)) - 128 := rfl
     have hcon : contB s i (k + 1) = (contB s i k && (decide (128 ≤ byt s (i + (k + 1))) && decide (byt s (i + (k + 1)) ≤ 191))) := rfl
     repeat' (first | (apply v_pure; (case hop => (apply p_indexSb; (case hx => rfl); (case hi => rfl); all_goals omega)); (case hd => rfl); rw [ek]) | apply v_seq | apply v_region | apply v_nil | apply v_skip | apply v_block | apply v_blk | (apply v_exit; (case hp => rfl)) | (apply v_take; (case hg => rfl)) | (apply v_pass; (case hg => rfl); (case hn => rfl); (case hd => rfl)) | (apply v_passN; (case hg => rfl); (case hn => rfl); (case hd => rfl)) | (apply v_pure; (case hop => first | (apply p_move <;> rfl) | (apply p_lt <;> rfl) | (apply p_gt <;> rfl) | (apply p_le <;> rfl) | (apply p_ge <;> rfl) | (apply p_assign <;> rfl) | (apply p_pickT <;> rfl) | (apply p_pickF <;> rfl) | (apply p_lenSlice <;> rfl) | (apply p_add; (case hx => rfl); (case hy => rfl); (case h => omega)) | (apply p_sub; (case hx => rfl); (case hy => rfl); (case h => omega)) | (apply p_lenString <;> rfl) | (apply p_convS <;> rfl) | (apply p_convB <;> rfl) | (apply p_conv64; (case hx => rfl); (case h => omega)) | (apply p_pickAnd <;> rfl) | (apply p_pickOr <;> rfl) | (apply p_indexSn; (case hx => rfl); (case hi => rfl); all_goals omega) | (apply p_indexSb; (case hx => rfl); (case hi => rfl); all_goals omega) | (apply p_mul; (case hx => rfl); (case hy => rfl); (case h => omega))); (case hd => rfl)) | (apply v_condT; (case hc => rfl)) | (apply v_condF; (case hc => rfl)) | (apply v_cond; (case hc => rfl); all_goals (intro h; (try simp only [reduceCtorEq, dec_true, dec_false, decide_eq_true_eq, decide_eq_false_iff_not, Bool.not_eq_true', Bool.not_eq_false', Option.isNone_iff_eq_none, beq_true, beq_false, beq_iff_eq, beq_eq_false_iff_ne, ne_eq, decide_eq_decide, Bool.not_eq_true, Bool.not_eq_false, Decidable.not_not] at h); first | done | (exfalso; omega) | (exfalso; exact h (by with_reducible assumption)) | (exfalso; revert h; rw [imp_false]; with_reducible assumption) | skip)) | (apply v_guardB; (case h1 => rfl); (case h2 => rfl); all_goals (intro h; (try simp only [reduceCtorEq, dec_true, dec_false, decide_eq_true_eq, decide_eq_false_iff_not, Bool.not_eq_true', Bool.not_eq_false', Option.isNone_iff_eq_none, beq_true, beq_false, beq_iff_eq, beq_eq_false_iff_ne, ne_eq, decide_eq_decide, Bool.not_eq_true, Bool.not_eq_false, Decidable.not_not] at h); first | done | (exfalso; omega) | (exfalso; exact h (by with_reducible assumption)) | (exfalso; revert h; rw [imp_false]; with_reducible assumption) | skip)) | fail)
     all_goals try
       (refine v_ret [] (outsA2 rfl rfl rfl) (by repeat (first | exact List.Sublist.refl _ | exact List.nil_sublist _ | apply List.Sublist.cons_cons | apply List.Sublist.cons | exact List.sublist_append_left _ _ | apply List.sublist_append_of_sublist_right)) ?_
        refine ⟨szV_of (a := 0) (b := 0) ?_ rfl rfl, rfl, rfl⟩
        rw [hsz]
        first
          | (have : k + 1 ≤ m := by omega
             refine szFin_cont ?_
             cases hc : contB s i m with
             | false => rfl
             | true =>
               have h2 := contB_mono hc this
               rw [hcon] at h2
               simp only [Bool.and_eq_true, decide_eq_true_eq] at h2
               omega)
          | (obtain rfl : k = m := by omega
             refine szFin_low ?_
             omega))
     all_goals try
       (refine v_ret [] (outsA2 rfl rfl rfl) (by repeat (first | exact List.Sublist.refl _ | exact List.nil_sublist _ | apply List.Sublist.cons_cons | apply List.Sublist.cons | exact List.sublist_append_left _ _ | apply List.sublist_append_of_sublist_right)) ?_
        obtain rfl : k = m := by omega
        refine ⟨szV_of (a := k + 1) (b := acc s i v k) ?_ (by omega) rfl, rfl, rfl⟩
        rw [hsz]
        exact szFin_ok (by omega) hcb (by omega))
     refine v_again rfl ⟨rfl, rfl, k + 1, m, low, v, _, _, _, rfl, rfl, rfl, by rw [hacc]; omega, by omega, hm, hv, him, ?_, hsz⟩ (by simp [headI]; omega)
     rw [hcon, hcb]
     simp only [Bool.true_and, Bool.and_eq_true, decide_eq_true_eq]
     omega)
/-! ### Plain -/
def plainP (r : Int) : Prop := (97 ≤ r ∧ r ≤ 122) ∨ (65 ≤ r ∧ r ≤ 90) ∨ (48 ≤ r ∧ r ≤ 57) ∨ r = 45 ∨ r = 95 ∨ r = 46 ∨ r = 58 ∨ (161 ≤ r ∧ r ≠ 65533)
instance (r : Int) : Decidable (plainP r) := by unfold plainP; infer_instance
theorem byt_list (l : List UInt8) (j : Nat) : byt ⟨l.toArray⟩ j = (l.getD j 0).toNat := by
  unfold byt
  congr 1
  by_cases h : j < l.length
  · simp [ByteArray.get!, h]
  · simp [ByteArray.get!, h]
    rfl
def plainL : List UInt8 := [97, 98, 99, 100, 101, 102, 103, 104, 105, 106, 107, 108, 109, 110, 111, 112, 113, 114, 115, 116, 117, 118, 119, 120, 121, 122, 65, 66, 67, 68, 69, 70, 71] ++ [72, 73, 74, 75, 76, 77, 78, 79, 80, 81, 82, 83, 84, 85, 86, 87, 88, 89, 90, 48, 49, 50, 51, 52, 53, 54, 55, 56, 57, 45, 95, 46, 58]
theorem plainL_all : (List.range 66).all (fun j => decide (plainP ((plainL.getD j 0).toNat : Int))) = true := by decide +kernel
theorem plainL_has : (List.range 128).all (fun c => !decide (plainP (c : Int)) || ((List.range 66).any fun j => decide ((plainL.getD j 0).toNat = c))) = true := by decide +kernel
theorem plain_s (G : GH) (r : Int) : Con Tryd.prog 103 #[.int .i64 r] G [] (Just (.bool (decide (plainP r))) G) := by
  refine v_enter Tryd.func103 rfl Tryd.ntmps103 rfl (fun B => ?_)
  repeat' (first | apply v_seq | apply v_region | apply v_nil | apply v_skip | apply v_block | apply v_blk | (apply v_exit; (case hp => rfl)) | (apply v_take; (case hg => rfl)) | (apply v_pass; (case hg => rfl); (case hn => rfl); (case hd => rfl)) | (apply v_passN; (case hg => rfl); (case hn => rfl); (case hd => rfl)) | (apply v_pure; (case hop => first | (apply p_move <;> rfl) | (apply p_eqs <;> rfl) | (apply p_nes <;> rfl) | (apply p_eqBs <;> rfl) | (apply p_neBs <;> rfl) | (apply p_eq <;> rfl) | (apply p_lt <;> rfl) | (apply p_ne <;> rfl) | (apply p_ge <;> rfl) | (apply p_assign <;> rfl) | (apply p_pickT <;> rfl) | (apply p_pickF <;> rfl) | (apply p_lenSlice <;> rfl) | (apply p_add; (case hx => rfl); (case hy => rfl); (case h => omega)) | (apply p_lenString <;> rfl) | (apply p_eqB <;> rfl) | (apply p_neB <;> rfl) | (apply p_eqNil <;> rfl) | (apply p_neNil <;> rfl) | (apply p_convS <;> rfl) | (apply p_convB <;> rfl) | (apply p_conv64; (case hx => rfl); (case h => omega)) | (apply p_pickAnd <;> rfl) | (apply p_pickOr <;> rfl) | (apply p_indexSn; (case hx => rfl); (case hi => rfl); all_goals omega) | (apply p_indexSb; (case hx => rfl); (case hi => rfl); all_goals omega) | (apply p_eqS <;> rfl) | (apply p_neS <;> rfl) | (apply p_eqNilSlice <;> rfl) | (apply p_neNilSlice <;> rfl)); (case hd => rfl)) | (apply v_condT; (case hc => rfl)) | (apply v_condF; (case hc => rfl)) | (apply v_cond; (case hc => rfl); all_goals (intro h; (try simp only [reduceCtorEq, dec_true, dec_false, decide_eq_true_eq, decide_eq_false_iff_not, Bool.not_eq_true', Bool.not_eq_false', Option.isNone_iff_eq_none, beq_true, beq_false, beq_iff_eq, beq_eq_false_iff_ne, ne_eq, decide_eq_decide, Bool.not_eq_true, Bool.not_eq_false, Decidable.not_not] at h); first | done | (exfalso; omega) | (exfalso; exact h (by with_reducible assumption)) | (exfalso; revert h; rw [imp_false]; with_reducible assumption) | skip)) | (apply v_guardB; (case h1 => rfl); (case h2 => rfl); all_goals (intro h; (try simp only [reduceCtorEq, dec_true, dec_false, decide_eq_true_eq, decide_eq_false_iff_not, Bool.not_eq_true', Bool.not_eq_false', Option.isNone_iff_eq_none, beq_true, beq_false, beq_iff_eq, beq_eq_false_iff_ne, ne_eq, decide_eq_decide, Bool.not_eq_true, Bool.not_eq_false, Decidable.not_not] at h); first | done | (exfalso; omega) | (exfalso; exact h (by with_reducible assumption)) | (exfalso; revert h; rw [imp_false]; with_reducible assumption) | skip)) | fail)
  refine v_loop [4, 3, 0] (fun us G' μ' => G' = G ∧ μ' = [] ∧ ∃ (k : Nat) (sL : ByteArray), us = [Value.int .i64 (k : Int), .string sL, .int .i64 r] ∧ k ≤ 66 ∧ sL.size = 66 ∧ (∀ j, byt sL j = (plainL.getD j 0).toNat) ∧ ∀ j, j < k → ((plainL.getD j 0).toNat : Int) ≠ r) (fun us => 67 - (headI us).toNat) rfl ⟨rfl, rfl, 0, _, rfl, by omega, rfl, fun j => byt_list plainL j, by omega⟩ ?_
  rintro us G' μ' ⟨rfl, rfl, k, sL, rfl, hk, hsz, hb, hno⟩
  repeat' (first | apply v_seq | apply v_region | apply v_nil | apply v_skip | apply v_block | apply v_blk | (apply v_exit; (case hp => rfl)) | (apply v_take; (case hg => rfl)) | (apply v_pass; (case hg => rfl); (case hn => rfl); (case hd => rfl)) | (apply v_passN; (case hg => rfl); (case hn => rfl); (case hd => rfl)) | (apply v_pure; (case hop => first | (apply p_move <;> rfl) | (apply p_eqs <;> rfl) | (apply p_nes <;> rfl) | (apply p_eqBs <;> rfl) | (apply p_neBs <;> rfl) | (apply p_eq <;> rfl) | (apply p_lt <;> rfl) | (apply p_ne <;> rfl) | (apply p_ge <;> rfl) | (apply p_assign <;> rfl) | (apply p_pickT <;> rfl) | (apply p_pickF <;> rfl) | (apply p_lenSlice <;> rfl) | (apply p_add; (case hx => rfl); (case hy => rfl); (case h => omega)) | (apply p_lenString <;> rfl) | (apply p_eqB <;> rfl) | (apply p_neB <;> rfl) | (apply p_eqNil <;> rfl) | (apply p_neNil <;> rfl) | (apply p_convS <;> rfl) | (apply p_convB <;> rfl) | (apply p_conv64; (case hx => rfl); (case h => omega)) | (apply p_pickAnd <;> rfl) | (apply p_pickOr <;> rfl) | (apply p_indexSn; (case hx => rfl); (case hi => rfl); all_goals omega) | (apply p_indexSb; (case hx => rfl); (case hi => rfl); all_goals omega) | (apply p_eqS <;> rfl) | (apply p_neS <;> rfl) | (apply p_eqNilSlice <;> rfl) | (apply p_neNilSlice <;> rfl)); (case hd => rfl)) | (apply v_condT; (case hc => rfl)) | (apply v_condF; (case hc => rfl)) | (apply v_cond; (case hc => rfl); all_goals (intro h; (try simp only [reduceCtorEq, dec_true, dec_false, decide_eq_true_eq, decide_eq_false_iff_not, Bool.not_eq_true', Bool.not_eq_false', Option.isNone_iff_eq_none, beq_true, beq_false, beq_iff_eq, beq_eq_false_iff_ne, ne_eq, decide_eq_decide, Bool.not_eq_true, Bool.not_eq_false, Decidable.not_not] at h); first | done | (exfalso; omega) | (exfalso; exact h (by with_reducible assumption)) | (exfalso; revert h; rw [imp_false]; with_reducible assumption) | skip)) | (apply v_guardB; (case h1 => rfl); (case h2 => rfl); all_goals (intro h; (try simp only [reduceCtorEq, dec_true, dec_false, decide_eq_true_eq, decide_eq_false_iff_not, Bool.not_eq_true', Bool.not_eq_false', Option.isNone_iff_eq_none, beq_true, beq_false, beq_iff_eq, beq_eq_false_iff_ne, ne_eq, decide_eq_decide, Bool.not_eq_true, Bool.not_eq_false, Decidable.not_not] at h); first | done | (exfalso; omega) | (exfalso; exact h (by with_reducible assumption)) | (exfalso; revert h; rw [imp_false]; with_reducible assumption) | skip)) | fail)
  · refine v_ret [] (outsA1 rfl rfl) (by repeat (first | exact List.Sublist.refl _ | exact List.nil_sublist _ | apply List.Sublist.cons_cons | apply List.Sublist.cons | exact List.sublist_append_left _ _ | apply List.sublist_append_of_sublist_right)) ?_
    refine ⟨?_, rfl, rfl⟩
    have h1 := List.all_eq_true.1 plainL_all k (by simp; omega)
    rename_i h
    rw [hb] at h
    rw [decide_eq_true_eq, h] at h1
    rw [decide_eq_true h1]
  · refine v_again rfl ⟨rfl, rfl, k + 1, sL, rfl, by omega, hsz, hb, fun j hj => ?_⟩ (by simp [headI]; omega)
    by_cases e : j = k
    · subst e
      rename_i h
      rw [hb] at h
      exact h
    · exact hno j (by omega)
  all_goals
    (have hn : ¬ (0 ≤ r ∧ r < 128 ∧ plainP r) := by
       rintro ⟨h0, h1, h2⟩
       have h3 := List.all_eq_true.1 plainL_has r.toNat (by simp; omega)
       have e : ((r.toNat : Nat) : Int) = r := by omega
       simp only [Bool.or_eq_true, Bool.not_eq_true', decide_eq_false_iff_not, e, List.any_eq_true, List.mem_range, decide_eq_true_eq] at h3
       rcases h3 with h3 | ⟨j, hj, h3⟩
       · exact h3 h2
       · exact hno j (by omega) (by omega)
     refine v_ret [] (outsA1 rfl rfl) (by repeat (first | exact List.Sublist.refl _ | exact List.nil_sublist _ | apply List.Sublist.cons_cons | apply List.Sublist.cons | exact List.sublist_append_left _ _ | apply List.sublist_append_of_sublist_right)) ?_
     refine ⟨?_, rfl, rfl⟩
     first
       | (have h161 : 161 ≤ r := by assumption
          by_cases hr : r = 65533
          · rw [dec_pos hr, decide_eq_false (by unfold plainP; omega)]; rfl
          · rw [dec_neg hr, decide_eq_true (by unfold plainP; omega)]; rfl)
       | (rw [decide_eq_false]
          intro h
          refine hn ⟨?_, ?_, h⟩ <;> (unfold plainP at h; omega)))
/-! ### The first bad place; keys; values -/
def badR (s : ByteArray) : Nat → Nat → Int
  | 0, _ => -1
  | n + 1, p => if p < s.size then (if (szR s p).1 = 0 then (p : Int) else badR s n (p + (szR s p).1)) else -1
def keyR (s : ByteArray) : Nat → Nat → Bool
  | 0, _ => true
  | n + 1, p => if p < s.size then (if (szR s p).1 = 0 then false else if plainP ((szR s p).2 : Int) then keyR s n (p + (szR s p).1) else false) else true
def keyB (s : ByteArray) : Bool := (decide (1 ≤ s.size) && decide (s.size ≤ 24)) && keyR s s.size 0
def okBytes (s : ByteArray) : Prop := ∀ i, i < s.size → 32 ≤ byt s i ∧ byt s i ≠ 127
noncomputable instance (s : ByteArray) : Decidable (okBytes s) := Classical.propDecidable _
noncomputable def valB (s : ByteArray) : Bool := (decide (s.size ≤ 48) && decide (badR s s.size 0 < 0)) && decide (okBytes s)
theorem badR_end {s : ByteArray} {n p : Nat} (h : ¬ p < s.size) : badR s n p = -1 := by
  cases n with
  | zero => rfl
  | succ n => unfold badR; rw [if_neg h]
theorem keyR_end {s : ByteArray} {n p : Nat} (h : ¬ p < s.size) : keyR s n p = true := by
  cases n with
  | zero => rfl
  | succ n => unfold keyR; rw [if_neg h]
theorem fuel {s : ByteArray} {n p : Nat} (h : p < s.size) (hn : s.size ≤ p + n) : ∃ m, n = m + 1 := ⟨n - 1, by omega⟩
theorem szR_le (s : ByteArray) (p : Nat) : (szR s p).1 ≤ 4 := by
  unfold szR szFin
  repeat' split
  all_goals simp
theorem refBad_s {G : GH} {s : ByteArray} (hs : s.size ≤ 1000000) : Con Tryd.prog 104 #[.string s] G [] (Just (.int .i64 (badR s s.size 0)) G) := by
  refine v_enter Tryd.func104 rfl Tryd.ntmps104 rfl (fun B => ?_)
  repeat' (first | apply v_seq | apply v_region | apply v_nil | apply v_skip | apply v_block | apply v_blk | (apply v_exit; (case hp => rfl)) | (apply v_take; (case hg => rfl)) | (apply v_pass; (case hg => rfl); (case hn => rfl); (case hd => rfl)) | (apply v_passN; (case hg => rfl); (case hn => rfl); (case hd => rfl)) | (apply v_pure; (case hop => first | (apply p_move <;> rfl) | (apply p_eqs <;> rfl) | (apply p_eqBs <;> rfl) | (apply p_eq <;> rfl) | (apply p_lt <;> rfl) | (apply p_assign <;> rfl) | (apply p_lenSlice <;> rfl) | (apply p_extract0 <;> rfl) | (apply p_extract1 <;> rfl) | (apply p_extract2 <;> rfl) | (apply p_extract <;> rfl) | (apply p_add; (case hx => rfl); (case hy => rfl); (case h => omega)) | (apply p_lenString <;> rfl) | (apply p_eqB <;> rfl) | (apply p_eqNil <;> rfl) | (apply p_eqS <;> rfl) | (apply p_eqNilSlice <;> rfl)); (case hd => rfl)) | (apply v_condT; (case hc => rfl)) | (apply v_condF; (case hc => rfl)) | (apply v_cond; (case hc => rfl); all_goals (intro h; (try simp only [reduceCtorEq, dec_true, dec_false, decide_eq_true_eq, decide_eq_false_iff_not, Bool.not_eq_true', Bool.not_eq_false', Option.isNone_iff_eq_none, beq_true, beq_false, beq_iff_eq, beq_eq_false_iff_ne, ne_eq, decide_eq_decide, Bool.not_eq_true, Bool.not_eq_false, Decidable.not_not] at h); first | done | (exfalso; omega) | (exfalso; exact h (by with_reducible assumption)) | (exfalso; revert h; rw [imp_false]; with_reducible assumption) | skip)) | (apply v_guardB; (case h1 => rfl); (case h2 => rfl); all_goals (intro h; (try simp only [reduceCtorEq, dec_true, dec_false, decide_eq_true_eq, decide_eq_false_iff_not, Bool.not_eq_true', Bool.not_eq_false', Option.isNone_iff_eq_none, beq_true, beq_false, beq_iff_eq, beq_eq_false_iff_ne, ne_eq, decide_eq_decide, Bool.not_eq_true, Bool.not_eq_false, Decidable.not_not] at h); first | done | (exfalso; omega) | (exfalso; exact h (by with_reducible assumption)) | (exfalso; revert h; rw [imp_false]; with_reducible assumption) | skip)) | fail)
  refine v_loop [3, 0] (fun us G' μ' => G' = G ∧ μ' = [] ∧ ∃ (p n : Nat), us = [Value.int .i64 (p : Int), .string s] ∧ s.size ≤ p + n ∧ p ≤ s.size + 4 ∧ badR s s.size 0 = badR s n p) (fun us => s.size - (headI us).toNat) rfl ⟨rfl, rfl, 0, s.size, rfl, by omega, by omega, rfl⟩ ?_
  rintro us G' μ' ⟨rfl, rfl, p, n, rfl, hn, hp, he⟩
  have h4 := szR_le s p
  repeat' (first | apply v_seq | apply v_region | apply v_nil | apply v_skip | apply v_block | apply v_blk | (apply v_exit; (case hp => rfl)) | (apply v_take; (case hg => rfl)) | (apply v_pass; (case hg => rfl); (case hn => rfl); (case hd => rfl)) | (apply v_passN; (case hg => rfl); (case hn => rfl); (case hd => rfl)) | (apply v_pure; (case hop => first | (apply p_move <;> rfl) | (apply p_eqs <;> rfl) | (apply p_eqBs <;> rfl) | (apply p_eq <;> rfl) | (apply p_lt <;> rfl) | (apply p_assign <;> rfl) | (apply p_lenSlice <;> rfl) | (apply p_extract0 <;> rfl) | (apply p_extract1 <;> rfl) | (apply p_extract2 <;> rfl) | (apply p_extract <;> rfl) | (apply p_add; (case hx => rfl); (case hy => rfl); (case h => omega)) | (apply p_lenString <;> rfl) | (apply p_eqB <;> rfl) | (apply p_eqNil <;> rfl) | (apply p_eqS <;> rfl) | (apply p_eqNilSlice <;> rfl)); (case hd => rfl)) | (apply v_condT; (case hc => rfl)) | (apply v_condF; (case hc => rfl)) | (apply v_cond; (case hc => rfl); all_goals (intro h; (try simp only [reduceCtorEq, dec_true, dec_false, decide_eq_true_eq, decide_eq_false_iff_not, Bool.not_eq_true', Bool.not_eq_false', Option.isNone_iff_eq_none, beq_true, beq_false, beq_iff_eq, beq_eq_false_iff_ne, ne_eq, decide_eq_decide, Bool.not_eq_true, Bool.not_eq_false, Decidable.not_not] at h); first | done | (exfalso; omega) | (exfalso; exact h (by with_reducible assumption)) | (exfalso; revert h; rw [imp_false]; with_reducible assumption) | skip)) | (apply v_guardB; (case h1 => rfl); (case h2 => rfl); all_goals (intro h; (try simp only [reduceCtorEq, dec_true, dec_false, decide_eq_true_eq, decide_eq_false_iff_not, Bool.not_eq_true', Bool.not_eq_false', Option.isNone_iff_eq_none, beq_true, beq_false, beq_iff_eq, beq_eq_false_iff_ne, ne_eq, decide_eq_decide, Bool.not_eq_true, Bool.not_eq_false, Decidable.not_not] at h); first | done | (exfalso; omega) | (exfalso; exact h (by with_reducible assumption)) | (exfalso; revert h; rw [imp_false]; with_reducible assumption) | skip)) | (apply v_callJ (hs := size_s ?o1 ?o2); (case ha => rfl); (case o1 => omega); (case o2 => omega); (case hd => rfl)) | fail)
  · obtain ⟨m, rfl⟩ := fuel (by omega) hn
    refine v_ret [] (outsA1 rfl rfl) (by repeat (first | exact List.Sublist.refl _ | exact List.nil_sublist _ | apply List.Sublist.cons_cons | apply List.Sublist.cons | exact List.sublist_append_left _ _ | apply List.sublist_append_of_sublist_right)) ?_
    refine ⟨?_, rfl, rfl⟩
    rw [he, badR, if_pos (by omega), if_pos (by omega)]
  · obtain ⟨m, rfl⟩ := fuel (by omega) hn
    refine v_again rfl ⟨rfl, rfl, p + (szR s p).1, m, rfl, by omega, by omega, ?_⟩ (by simp [headI]; omega)
    rw [he, badR, if_pos (by omega), if_neg (by omega)]
  · refine v_ret [] (outsA1 rfl rfl) (by repeat (first | exact List.Sublist.refl _ | exact List.nil_sublist _ | apply List.Sublist.cons_cons | apply List.Sublist.cons | exact List.sublist_append_left _ _ | apply List.sublist_append_of_sublist_right)) ?_
    refine ⟨?_, rfl, rfl⟩
    rw [he, badR_end (by omega)]
theorem refKey_s {G : GH} {s : ByteArray} (hs : s.size ≤ 9223372036854775807) : Con Tryd.prog 71 #[.string s] G [] (Just (.bool (keyB s)) G) := by
  refine v_enter Tryd.func71 rfl Tryd.ntmps71 rfl (fun B => ?_)
  repeat' (first | apply v_seq | apply v_region | apply v_nil | apply v_skip | apply v_block | apply v_blk | (apply v_exit; (case hp => rfl)) | (apply v_take; (case hg => rfl)) | (apply v_pass; (case hg => rfl); (case hn => rfl); (case hd => rfl)) | (apply v_passN; (case hg => rfl); (case hn => rfl); (case hd => rfl)) | (apply v_pure; (case hop => first | (apply p_move <;> rfl) | (apply p_eqs <;> rfl) | (apply p_eqBs <;> rfl) | (apply p_eq <;> rfl) | (apply p_lt <;> rfl) | (apply p_gt <;> rfl) | (apply p_assign <;> rfl) | (apply p_pickT <;> rfl) | (apply p_pickF <;> rfl) | (apply p_not <;> rfl) | (apply p_lenSlice <;> rfl) | (apply p_extract0 <;> rfl) | (apply p_extract1 <;> rfl) | (apply p_extract2 <;> rfl) | (apply p_extract <;> rfl) | (apply p_add; (case hx => rfl); (case hy => rfl); (case h => omega)) | (apply p_lenString <;> rfl) | (apply p_eqB <;> rfl) | (apply p_eqNil <;> rfl) | (apply p_pickAnd <;> rfl) | (apply p_pickOr <;> rfl) | (apply p_eqS <;> rfl) | (apply p_eqNilSlice <;> rfl)); (case hd => rfl)) | (apply v_condT; (case hc => rfl)) | (apply v_condF; (case hc => rfl)) | (apply v_cond; (case hc => rfl); all_goals (intro h; (try simp only [reduceCtorEq, dec_true, dec_false, decide_eq_true_eq, decide_eq_false_iff_not, Bool.not_eq_true', Bool.not_eq_false', Option.isNone_iff_eq_none, beq_true, beq_false, beq_iff_eq, beq_eq_false_iff_ne, ne_eq, decide_eq_decide, Bool.not_eq_true, Bool.not_eq_false, Decidable.not_not] at h); first | done | (exfalso; omega) | (exfalso; exact h (by with_reducible assumption)) | (exfalso; revert h; rw [imp_false]; with_reducible assumption) | skip)) | (apply v_guardB; (case h1 => rfl); (case h2 => rfl); all_goals (intro h; (try simp only [reduceCtorEq, dec_true, dec_false, decide_eq_true_eq, decide_eq_false_iff_not, Bool.not_eq_true', Bool.not_eq_false', Option.isNone_iff_eq_none, beq_true, beq_false, beq_iff_eq, beq_eq_false_iff_ne, ne_eq, decide_eq_decide, Bool.not_eq_true, Bool.not_eq_false, Decidable.not_not] at h); first | done | (exfalso; omega) | (exfalso; exact h (by with_reducible assumption)) | (exfalso; revert h; rw [imp_false]; with_reducible assumption) | skip)) | fail)
  all_goals try
    (refine v_ret [] (outsA1 rfl rfl) (by repeat (first | exact List.Sublist.refl _ | exact List.nil_sublist _ | apply List.Sublist.cons_cons | apply List.Sublist.cons | exact List.sublist_append_left _ _ | apply List.sublist_append_of_sublist_right)) ?_
     refine ⟨?_, rfl, rfl⟩
     have : (decide (1 ≤ s.size) && decide (s.size ≤ 24)) = false := by
       rw [Bool.and_eq_false_iff, decide_eq_false_iff_not, decide_eq_false_iff_not]; omega
     rw [keyB, this]; rfl)
  have hk : keyB s = keyR s s.size 0 := by
    rw [keyB, decide_eq_true (by omega), decide_eq_true (by omega)]; rfl
  refine v_loop [3, 0] (fun us G' μ' => G' = G ∧ μ' = [] ∧ ∃ (p n : Nat), us = [Value.int .i64 (p : Int), .string s] ∧ s.size ≤ p + n ∧ p ≤ s.size + 4 ∧ keyB s = keyR s n p) (fun us => s.size - (headI us).toNat) rfl ⟨rfl, rfl, 0, s.size, rfl, by omega, by omega, hk⟩ ?_
  rintro us G' μ' ⟨rfl, rfl, p, n, rfl, hn, hp, he⟩
  have h4 := szR_le s p
  repeat' (first | apply v_seq | apply v_region | apply v_nil | apply v_skip | apply v_block | apply v_blk | (apply v_exit; (case hp => rfl)) | (apply v_take; (case hg => rfl)) | (apply v_pass; (case hg => rfl); (case hn => rfl); (case hd => rfl)) | (apply v_passN; (case hg => rfl); (case hn => rfl); (case hd => rfl)) | (apply v_pure; (case hop => first | (apply p_move <;> rfl) | (apply p_eqs <;> rfl) | (apply p_eqBs <;> rfl) | (apply p_eq <;> rfl) | (apply p_lt <;> rfl) | (apply p_gt <;> rfl) | (apply p_assign <;> rfl) | (apply p_pickT <;> rfl) | (apply p_pickF <;> rfl) | (apply p_not <;> rfl) | (apply p_lenSlice <;> rfl) | (apply p_extract0 <;> rfl) | (apply p_extract1 <;> rfl) | (apply p_extract2 <;> rfl) | (apply p_extract <;> rfl) | (apply p_add; (case hx => rfl); (case hy => rfl); (case h => omega)) | (apply p_lenString <;> rfl) | (apply p_eqB <;> rfl) | (apply p_eqNil <;> rfl) | (apply p_pickAnd <;> rfl) | (apply p_pickOr <;> rfl) | (apply p_eqS <;> rfl) | (apply p_eqNilSlice <;> rfl)); (case hd => rfl)) | (apply v_condT; (case hc => rfl)) | (apply v_condF; (case hc => rfl)) | (apply v_cond; (case hc => rfl); all_goals (intro h; (try simp only [reduceCtorEq, dec_true, dec_false, decide_eq_true_eq, decide_eq_false_iff_not, Bool.not_eq_true', Bool.not_eq_false', Option.isNone_iff_eq_none, beq_true, beq_false, beq_iff_eq, beq_eq_false_iff_ne, ne_eq, decide_eq_decide, Bool.not_eq_true, Bool.not_eq_false, Decidable.not_not] at h); first | done | (exfalso; omega) | (exfalso; exact h (by with_reducible assumption)) | (exfalso; revert h; rw [imp_false]; with_reducible assumption) | skip)) | (apply v_guardB; (case h1 => rfl); (case h2 => rfl); all_goals (intro h; (try simp only [reduceCtorEq, dec_true, dec_false, decide_eq_true_eq, decide_eq_false_iff_not, Bool.not_eq_true', Bool.not_eq_false', Option.isNone_iff_eq_none, beq_true, beq_false, beq_iff_eq, beq_eq_false_iff_ne, ne_eq, decide_eq_decide, Bool.not_eq_true, Bool.not_eq_false, Decidable.not_not] at h); first | done | (exfalso; omega) | (exfalso; exact h (by with_reducible assumption)) | (exfalso; revert h; rw [imp_false]; with_reducible assumption) | skip)) | (apply v_callJ (hs := size_s ?o1 ?o2); (case ha => rfl); (case o1 => omega); (case o2 => omega); (case hd => rfl)) | (apply v_callJ (hs := plain_s _ _); (case ha => rfl); (case hd => rfl)) | fail)
  · obtain ⟨m, rfl⟩ := fuel (by omega) hn
    refine v_ret [] (outsA1 rfl rfl) (by repeat (first | exact List.Sublist.refl _ | exact List.nil_sublist _ | apply List.Sublist.cons_cons | apply List.Sublist.cons | exact List.sublist_append_left _ _ | apply List.sublist_append_of_sublist_right)) ?_
    refine ⟨?_, rfl, rfl⟩
    rw [he, keyR, if_pos (by omega), if_pos (by omega)]
  · obtain ⟨m, rfl⟩ := fuel (by omega) hn
    refine v_ret [] (outsA1 rfl rfl) (by repeat (first | exact List.Sublist.refl _ | exact List.nil_sublist _ | apply List.Sublist.cons_cons | apply List.Sublist.cons | exact List.sublist_append_left _ _ | apply List.sublist_append_of_sublist_right)) ?_
    refine ⟨?_, rfl, rfl⟩
    rw [he, keyR, if_pos (by omega), if_neg (by omega), if_neg (by assumption)]
  · obtain ⟨m, rfl⟩ := fuel (by omega) hn
    refine v_again rfl ⟨rfl, rfl, p + (szR s p).1, m, rfl, by omega, by omega, ?_⟩ (by simp [headI]; omega)
    rw [he, keyR, if_pos (by omega), if_neg (by omega), if_pos (by assumption)]
  · refine v_ret [] (outsA1 rfl rfl) (by repeat (first | exact List.Sublist.refl _ | exact List.nil_sublist _ | apply List.Sublist.cons_cons | apply List.Sublist.cons | exact List.sublist_append_left _ _ | apply List.sublist_append_of_sublist_right)) ?_
    refine ⟨?_, rfl, rfl⟩
    rw [he, keyR_end (by omega)]
theorem refVal_s {G : GH} {s : ByteArray} (hs : s.size ≤ 9223372036854775807) : Con Tryd.prog 72 #[.string s] G [] (Just (.bool (valB s)) G) := by
  refine v_enter Tryd.func72 rfl Tryd.ntmps72 rfl (fun B => ?_)
  repeat' (first | apply v_seq | apply v_region | apply v_nil | apply v_skip | apply v_block | apply v_blk | (apply v_exit; (case hp => rfl)) | (apply v_take; (case hg => rfl)) | (apply v_pass; (case hg => rfl); (case hn => rfl); (case hd => rfl)) | (apply v_passN; (case hg => rfl); (case hn => rfl); (case hd => rfl)) | (apply v_pure; (case hop => first | (apply p_move <;> rfl) | (apply p_eqs <;> rfl) | (apply p_eqBs <;> rfl) | (apply p_eq <;> rfl) | (apply p_lt <;> rfl) | (apply p_gt <;> rfl) | (apply p_ge <;> rfl) | (apply p_assign <;> rfl) | (apply p_pickT <;> rfl) | (apply p_pickF <;> rfl) | (apply p_lenSlice <;> rfl) | (apply p_add; (case hx => rfl); (case hy => rfl); (case h => omega)) | (apply p_lenString <;> rfl) | (apply p_eqB <;> rfl) | (apply p_eqNil <;> rfl) | (apply p_pickAnd <;> rfl) | (apply p_pickOr <;> rfl) | (apply p_indexSn; (case hx => rfl); (case hi => rfl); all_goals omega) | (apply p_indexSb; (case hx => rfl); (case hi => rfl); all_goals omega) | (apply p_eqS <;> rfl) | (apply p_eqNilSlice <;> rfl)); (case hd => rfl)) | (apply v_condT; (case hc => rfl)) | (apply v_condF; (case hc => rfl)) | (apply v_cond; (case hc => rfl); all_goals (intro h; (try simp only [reduceCtorEq, dec_true, dec_false, decide_eq_true_eq, decide_eq_false_iff_not, Bool.not_eq_true', Bool.not_eq_false', Option.isNone_iff_eq_none, beq_true, beq_false, beq_iff_eq, beq_eq_false_iff_ne, ne_eq, decide_eq_decide, Bool.not_eq_true, Bool.not_eq_false, Decidable.not_not] at h); first | done | (exfalso; omega) | (exfalso; exact h (by with_reducible assumption)) | (exfalso; revert h; rw [imp_false]; with_reducible assumption) | skip)) | (apply v_guardB; (case h1 => rfl); (case h2 => rfl); all_goals (intro h; (try simp only [reduceCtorEq, dec_true, dec_false, decide_eq_true_eq, decide_eq_false_iff_not, Bool.not_eq_true', Bool.not_eq_false', Option.isNone_iff_eq_none, beq_true, beq_false, beq_iff_eq, beq_eq_false_iff_ne, ne_eq, decide_eq_decide, Bool.not_eq_true, Bool.not_eq_false, Decidable.not_not] at h); first | done | (exfalso; omega) | (exfalso; exact h (by with_reducible assumption)) | (exfalso; revert h; rw [imp_false]; with_reducible assumption) | skip)) | (apply v_callJ (hs := refBad_s ?o1); (case ha => rfl); (case o1 => omega); (case hd => rfl)) | fail)
  all_goals try
    (refine v_ret [] (outsA1 rfl rfl) (by repeat (first | exact List.Sublist.refl _ | exact List.nil_sublist _ | apply List.Sublist.cons_cons | apply List.Sublist.cons | exact List.sublist_append_left _ _ | apply List.sublist_append_of_sublist_right)) ?_
     refine ⟨?_, rfl, rfl⟩
     have : (decide (s.size ≤ 48) && decide (badR s s.size 0 < 0)) = false := by
       rw [Bool.and_eq_false_iff, decide_eq_false_iff_not, decide_eq_false_iff_not]; omega
     rw [valB, this]; rfl)
  have hv : valB s = decide (okBytes s) := by
    rw [valB, decide_eq_true (by omega), decide_eq_true (by omega)]; rfl
  refine v_loop [3, 0] (fun us G' μ' => G' = G ∧ μ' = [] ∧ ∃ (p : Nat), us = [Value.int .i64 (p : Int), .string s] ∧ p ≤ s.size ∧ ∀ j, j < p → 32 ≤ byt s j ∧ byt s j ≠ 127) (fun us => s.size - (headI us).toNat) rfl ⟨rfl, rfl, 0, rfl, by omega, by omega⟩ ?_
  rintro us G' μ' ⟨rfl, rfl, p, rfl, hp, hno⟩
  repeat' (first | apply v_seq | apply v_region | apply v_nil | apply v_skip | apply v_block | apply v_blk | (apply v_exit; (case hp => rfl)) | (apply v_take; (case hg => rfl)) | (apply v_pass; (case hg => rfl); (case hn => rfl); (case hd => rfl)) | (apply v_passN; (case hg => rfl); (case hn => rfl); (case hd => rfl)) | (apply v_pure; (case hop => first | (apply p_move <;> rfl) | (apply p_eqs <;> rfl) | (apply p_eqBs <;> rfl) | (apply p_eq <;> rfl) | (apply p_lt <;> rfl) | (apply p_gt <;> rfl) | (apply p_ge <;> rfl) | (apply p_assign <;> rfl) | (apply p_pickT <;> rfl) | (apply p_pickF <;> rfl) | (apply p_lenSlice <;> rfl) | (apply p_add; (case hx => rfl); (case hy => rfl); (case h => omega)) | (apply p_lenString <;> rfl) | (apply p_eqB <;> rfl) | (apply p_eqNil <;> rfl) | (apply p_pickAnd <;> rfl) | (apply p_pickOr <;> rfl) | (apply p_indexSn; (case hx => rfl); (case hi => rfl); all_goals omega) | (apply p_indexSb; (case hx => rfl); (case hi => rfl); all_goals omega) | (apply p_eqS <;> rfl) | (apply p_eqNilSlice <;> rfl)); (case hd => rfl)) | (apply v_condT; (case hc => rfl)) | (apply v_condF; (case hc => rfl)) | (apply v_cond; (case hc => rfl); all_goals (intro h; (try simp only [reduceCtorEq, dec_true, dec_false, decide_eq_true_eq, decide_eq_false_iff_not, Bool.not_eq_true', Bool.not_eq_false', Option.isNone_iff_eq_none, beq_true, beq_false, beq_iff_eq, beq_eq_false_iff_ne, ne_eq, decide_eq_decide, Bool.not_eq_true, Bool.not_eq_false, Decidable.not_not] at h); first | done | (exfalso; omega) | (exfalso; exact h (by with_reducible assumption)) | (exfalso; revert h; rw [imp_false]; with_reducible assumption) | skip)) | (apply v_guardB; (case h1 => rfl); (case h2 => rfl); all_goals (intro h; (try simp only [reduceCtorEq, dec_true, dec_false, decide_eq_true_eq, decide_eq_false_iff_not, Bool.not_eq_true', Bool.not_eq_false', Option.isNone_iff_eq_none, beq_true, beq_false, beq_iff_eq, beq_eq_false_iff_ne, ne_eq, decide_eq_decide, Bool.not_eq_true, Bool.not_eq_false, Decidable.not_not] at h); first | done | (exfalso; omega) | (exfalso; exact h (by with_reducible assumption)) | (exfalso; revert h; rw [imp_false]; with_reducible assumption) | skip)) | fail)
  all_goals try
    (refine v_ret [] (outsA1 rfl rfl) (by repeat (first | exact List.Sublist.refl _ | exact List.nil_sublist _ | apply List.Sublist.cons_cons | apply List.Sublist.cons | exact List.sublist_append_left _ _ | apply List.sublist_append_of_sublist_right)) ?_
     refine ⟨?_, rfl, rfl⟩
     rw [hv, decide_eq_false]
     intro hm
     have := hm p (by omega)
     omega)
  all_goals try
    (refine v_again rfl ⟨rfl, rfl, p + 1, rfl, by omega, fun j hj => ?_⟩ (by simp [headI]; omega)
     by_cases e : j = p
     · subst e; omega
     · exact hno j (by omega))
  refine v_ret [] (outsA1 rfl rfl) (by repeat (first | exact List.Sublist.refl _ | exact List.nil_sublist _ | apply List.Sublist.cons_cons | apply List.Sublist.cons | exact List.sublist_append_left _ _ | apply List.sublist_append_of_sublist_right)) ?_
  refine ⟨?_, rfl, rfl⟩
  rw [hv, decide_eq_true]
  exact fun j hj => hno j (by omega)
end Go.Proofs.YtfckggkmiegokaaDoor
