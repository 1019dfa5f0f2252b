/-
  Texts (layer 5), the fourth part: the program's walks.
-/
import Derived.Test.YtfckggkmiegokaaDoorTextC
set_option linter.unusedSimpArgs false
set_option linter.unusedVariables false
namespace Go.Proofs.YtfckggkmiegokaaDoor
open Go.Vx Go.ChangeShapes Go.WideShapes Go.ChangeAt Go.RowKit
theorem byt_extract {s : ByteArray} {i k : Nat} (h : i + k < s.size) : byt (s.extract i s.size) k = byt s (i + k) := by
  have hs : (s.extract i s.size).size = s.size - i := by simp
  rw [byt_eq (by omega), byt_eq h]
  congr 1
  simp [ByteArray.getElem_extract]
theorem decode_extract {s : ByteArray} {i : Nat} (h : i < s.size) : Utf8.decode (s.extract i s.size) 0 = Utf8.decode s i := by
  have hs : (s.extract i s.size).size = s.size - i := by simp
  rw [decode_byt, decode_byt, hs]
  have e0 := byt_extract (s := s) (i := i) (k := 0) h
  rw [Nat.add_zero] at e0
  simp only [Nat.zero_add, e0]
  by_cases h1 : i + 1 < s.size
  · have e1 := byt_extract (s := s) (i := i) (k := 1) h1
    rw [e1]
    have c1 : (1 < s.size - i) ↔ (i + 1 < s.size) := by omega
    simp only [c1]
    by_cases h2 : i + 2 < s.size
    · have e2 := byt_extract (s := s) (i := i) (k := 2) h2
      rw [e2]
      have c2 : (2 < s.size - i) ↔ (i + 2 < s.size) := by omega
      simp only [c2]
      by_cases h3 : i + 3 < s.size
      · have e3 := byt_extract (s := s) (i := i) (k := 3) h3
        rw [e3]
        have c3 : (3 < s.size - i) ↔ (i + 3 < s.size) := by omega
        simp only [c3]
      · have c3 : ¬ (3 < s.size - i) := by omega
        simp only [h3, c3, false_and, and_false, if_false]
    · have c2 : ¬ (2 < s.size - i) := by omega
      simp only [h2, c2, false_and, and_false, if_false]
  · have c1 : ¬ (1 < s.size - i) := by omega
    simp only [h1, c1, false_and, and_false, if_false]
theorem decodeGo_extract {s : ByteArray} {i : Nat} (h : i < s.size) : Lib.decodeGo (s.extract i s.size) = Utf8.decode s i := by
  have hs : (s.extract i s.size).size = s.size - i := by simp
  rw [Lib.decodeGo, if_neg (by omega), decode_extract h]
theorem sz_one {s : ByteArray} {p : Nat} (h : (szR s p).1 = 1) : (szR s p).2 < 128 := by
  unfold szR at h ⊢
  by_cases c0 : byt s p < 128
  · rw [if_pos c0]; exact c0
  · rw [if_neg c0] at h
    exfalso
    have key : ∀ m low v, 0 < m → (szFin s p m low v).1 ≠ 1 := by
      intro m low v hm e
      obtain ⟨_, _, h3, _⟩ := szFin_spec (s := s) (i := p) (m := m) (low := low) (v := v) (by omega)
      rw [h3] at e
      simp only at e
      omega
    split at h
    · exact key _ _ _ (by omega) h
    · split at h
      · exact key _ _ _ (by omega) h
      · split at h
        · exact key _ _ _ (by omega) h
        · cases h
theorem bad_s {G : GH} (hT : TabsG G) {s : ByteArray} (hs : s.size ≤ 9223372036854775807) : Con Tryd.prog 117 #[.string s] G [] (Just (.int .i64 (badR s s.size 0)) G) := by
  apply Con.just
  refine v_enter Tryd.func117 rfl Tryd.ntmps117 rfl (fun B => ?_)
  repeat' (first | apply v_seq | apply v_region | apply v_nil | apply v_skip | apply v_block | apply v_blk | (apply v_exit; (case hp => rfl)) | (apply v_take; (case hg => rfl)) | (apply v_pass; (case hg => rfl); (case hn => rfl); (case hd => rfl)) | (apply v_passN; (case hg => rfl); (case hn => rfl); (case hd => rfl)) | (apply v_pure; (case hop => first | (apply p_move <;> rfl) | (apply p_eqs <;> rfl) | (apply p_nes <;> rfl) | (apply p_eqBs <;> rfl) | (apply p_neBs <;> rfl) | (apply p_eq <;> rfl) | (apply p_ne <;> rfl) | (apply p_assign <;> rfl) | (apply p_extract0 <;> rfl) | (apply p_extract1 <;> rfl) | (apply p_extract2 <;> rfl) | (apply p_extract <;> rfl) | (apply p_eqB <;> rfl) | (apply p_neB <;> rfl) | (apply p_eqNil <;> rfl) | (apply p_neNil <;> rfl) | (apply p_sliceL; (case hx => rfl); (case hl => rfl); all_goals omega) | (apply p_sliceH; (case hx => rfl); (case hh => rfl); all_goals omega) | (apply p_sliceLH; (case hx => rfl); (case hl => rfl); (case hh => rfl); all_goals omega) | (apply p_slice3; (case hx => rfl); (case hh => rfl); (case hq => rfl); all_goals omega) | (apply p_sliceStrL; (case hx => rfl); (case hl => rfl); all_goals omega) | (apply p_sliceStrH; (case hx => rfl); (case hh => rfl); all_goals omega) | (apply p_eqS <;> rfl) | (apply p_neS <;> rfl) | (apply p_eqNilSlice <;> rfl) | (apply p_neNilSlice <;> rfl)); (case hd => rfl)) | (apply v_condT; (case hc => rfl)) | (apply v_condF; (case hc => rfl)) | (apply v_cond; (case hc => rfl); all_goals (intro h; (try simp only [reduceCtorEq, dec_true, dec_false, decide_eq_true_eq, decide_eq_false_iff_not, Bool.not_eq_true', Bool.not_eq_false', Option.isNone_iff_eq_none, beq_true, beq_false, beq_iff_eq, beq_eq_false_iff_ne, ne_eq, decide_eq_decide, Bool.not_eq_true, Bool.not_eq_false, Decidable.not_not] at h); first | done | (exfalso; omega) | (exfalso; exact h (by with_reducible assumption)) | (exfalso; revert h; rw [imp_false]; with_reducible assumption) | skip)) | (apply v_guardB; (case h1 => rfl); (case h2 => rfl); all_goals (intro h; (try simp only [reduceCtorEq, dec_true, dec_false, decide_eq_true_eq, decide_eq_false_iff_not, Bool.not_eq_true', Bool.not_eq_false', Option.isNone_iff_eq_none, beq_true, beq_false, beq_iff_eq, beq_eq_false_iff_ne, ne_eq, decide_eq_decide, Bool.not_eq_true, Bool.not_eq_false, Decidable.not_not] at h); first | done | (exfalso; omega) | (exfalso; exact h (by with_reducible assumption)) | (exfalso; revert h; rw [imp_false]; with_reducible assumption) | skip)) | (apply v_rangeS; (case hx => rfl); (case hd => rfl); intro b) | fail)
  refine v_loopI (ι := Nat × Nat) [8, 0] (fun x us G' μ' => G' = G ∧ ∃ b, us = [Value.pointer (some ⟨b, 0, none⟩), .string s] ∧ μ' = [(b, .stringIter s x.1)] ∧ s.size ≤ x.1 + x.2 ∧ badR s s.size 0 = badR s x.2 x.1) (fun x => s.size - x.1) rfl (0, s.size) ⟨rfl, _, rfl, rfl, by simp, rfl⟩ ?_
  rintro ⟨p, n⟩ us G' μ' ⟨rfl, b, rfl, rfl, hn, he⟩
  simp only at hn he
  by_cases hp : p < s.size
  · obtain ⟨m, rfl⟩ := fuel hp hn
    have hw := decode_w s p hp
    have hd := decode_of_sz s p hp
    have hd2 := decodeGo_extract hp
    have ep : ((p : Nat) : Int).toNat = p := Int.toNat_natCast p
    have hcall := decode_s hT (s.extract p s.size)
    rw [hd2] at hcall
    repeat' (first | apply v_seq | apply v_region | apply v_nil | apply v_skip | apply v_block | apply v_blk | (apply v_exit; (case hp => rfl)) | (apply v_take; (case hg => rfl)) | (apply v_pass; (case hg => rfl); (case hn => rfl); (case hd => rfl)) | (apply v_passN; (case hg => rfl); (case hn => rfl); (case hd => rfl)) | (apply v_pure; (case hop => first | (apply p_move <;> rfl) | (apply p_eqs <;> rfl) | (apply p_nes <;> rfl) | (apply p_eqBs <;> rfl) | (apply p_neBs <;> rfl) | (apply p_eq <;> rfl) | (apply p_ne <;> rfl) | (apply p_assign <;> rfl) | (apply p_extract0 <;> rfl) | (apply p_extract1 <;> rfl) | (apply p_extract2 <;> rfl) | (apply p_extract <;> rfl) | (apply p_eqB <;> rfl) | (apply p_neB <;> rfl) | (apply p_eqNil <;> rfl) | (apply p_neNil <;> rfl) | (apply p_sliceL; (case hx => rfl); (case hl => rfl); all_goals omega) | (apply p_sliceH; (case hx => rfl); (case hh => rfl); all_goals omega) | (apply p_sliceLH; (case hx => rfl); (case hl => rfl); (case hh => rfl); all_goals omega) | (apply p_slice3; (case hx => rfl); (case hh => rfl); (case hq => rfl); all_goals omega) | (apply p_sliceStrL; (case hx => rfl); (case hl => rfl); all_goals omega) | (apply p_sliceStrH; (case hx => rfl); (case hh => rfl); all_goals omega) | (apply p_eqS <;> rfl) | (apply p_neS <;> rfl) | (apply p_eqNilSlice <;> rfl) | (apply p_neNilSlice <;> rfl)); (case hd => rfl)) | (apply v_condT; (case hc => rfl)) | (apply v_condF; (case hc => rfl)) | (apply v_cond; (case hc => rfl); all_goals (intro h; (try simp only [reduceCtorEq, dec_true, dec_false, decide_eq_true_eq, decide_eq_false_iff_not, Bool.not_eq_true', Bool.not_eq_false', Option.isNone_iff_eq_none, beq_true, beq_false, beq_iff_eq, beq_eq_false_iff_ne, ne_eq, decide_eq_decide, Bool.not_eq_true, Bool.not_eq_false, Decidable.not_not] at h); first | done | (exfalso; omega) | (exfalso; exact h (by with_reducible assumption)) | (exfalso; revert h; rw [imp_false]; with_reducible assumption) | skip)) | (apply v_guardB; (case h1 => rfl); (case h2 => rfl); all_goals (intro h; (try simp only [reduceCtorEq, dec_true, dec_false, decide_eq_true_eq, decide_eq_false_iff_not, Bool.not_eq_true', Bool.not_eq_false', Option.isNone_iff_eq_none, beq_true, beq_false, beq_iff_eq, beq_eq_false_iff_ne, ne_eq, decide_eq_decide, Bool.not_eq_true, Bool.not_eq_false, Decidable.not_not] at h); first | done | (exfalso; omega) | (exfalso; exact h (by with_reducible assumption)) | (exfalso; revert h; rw [imp_false]; with_reducible assumption) | skip)) | (apply v_nextS; (case hx => rfl); (case hb => (repeat (first | exact List.Mem.head _ | apply List.Mem.tail))); (case hp => assumption); (case hu => exact Upd.here _ _); (case hd => rfl)) | (apply v_read; (case hop => (apply r_nextEnd; (case hx => rfl); (case hb => (repeat (first | exact List.Mem.head _ | apply List.Mem.tail))); (case hp => assumption))); (case hd => rfl)) | (apply v_callJ (hs := hcall); (case ha => rfl); (case hd => rfl)) | (apply v_rangeS; (case hx => rfl); (case hd => rfl); intro b) | fail)
    · by_cases hz : (szR s p).1 = 0
      · rw [if_pos hz] at hd
        simp only [hd] at h
        omega
      · rw [if_neg hz] at hd
        refine v_againI (p + (szR s p).1, m) rfl ⟨rfl, b, rfl, by rw [hd], by simp only; rw [hd] at hw; simp only at hw; omega, ?_⟩ (by simp only; rw [hd] at hw; simp only at hw; omega)
        rw [he, badR, if_pos hp, if_neg hz]
    · refine v_ret [] (outsA1 rfl rfl) (by repeat (first | exact List.Sublist.refl _ | exact List.nil_sublist _ | apply List.Sublist.cons_cons | apply List.Sublist.cons | exact List.sublist_append_left _ _ | apply List.sublist_append_of_sublist_right)) ?_
      refine ⟨?_, rfl⟩
      have hz : (szR s p).1 = 0 := by
        apply Classical.byContradiction
        intro hz
        rw [if_neg hz] at hd
        rename_i h1
        rw [hd] at h h1
        simp only at h h1
        have := sz_one (s := s) (p := p) (by omega)
        omega
      rw [he, badR, if_pos hp, if_pos hz]
    · by_cases hz : (szR s p).1 = 0
      · rw [if_pos hz] at hd
        rw [hd] at h
        simp at h
      · rw [if_neg hz] at hd
        refine v_againI (p + (szR s p).1, m) rfl ⟨rfl, b, rfl, by rw [hd], by simp only; rw [hd] at hw; simp only at hw; omega, ?_⟩ (by simp only; rw [hd] at hw; simp only at hw; omega)
        rw [he, badR, if_pos hp, if_neg hz]
  · repeat' (first | apply v_seq | apply v_region | apply v_nil | apply v_skip | apply v_block | apply v_blk | (apply v_exit; (case hp => rfl)) | (apply v_take; (case hg => rfl)) | (apply v_pass; (case hg => rfl); (case hn => rfl); (case hd => rfl)) | (apply v_passN; (case hg => rfl); (case hn => rfl); (case hd => rfl)) | (apply v_pure; (case hop => first | (apply p_move <;> rfl) | (apply p_eqs <;> rfl) | (apply p_nes <;> rfl) | (apply p_eqBs <;> rfl) | (apply p_neBs <;> rfl) | (apply p_eq <;> rfl) | (apply p_ne <;> rfl) | (apply p_assign <;> rfl) | (apply p_extract0 <;> rfl) | (apply p_extract1 <;> rfl) | (apply p_extract2 <;> rfl) | (apply p_extract <;> rfl) | (apply p_eqB <;> rfl) | (apply p_neB <;> rfl) | (apply p_eqNil <;> rfl) | (apply p_neNil <;> rfl) | (apply p_sliceL; (case hx => rfl); (case hl => rfl); all_goals omega) | (apply p_sliceH; (case hx => rfl); (case hh => rfl); all_goals omega) | (apply p_sliceLH; (case hx => rfl); (case hl => rfl); (case hh => rfl); all_goals omega) | (apply p_slice3; (case hx => rfl); (case hh => rfl); (case hq => rfl); all_goals omega) | (apply p_sliceStrL; (case hx => rfl); (case hl => rfl); all_goals omega) | (apply p_sliceStrH; (case hx => rfl); (case hh => rfl); all_goals omega) | (apply p_eqS <;> rfl) | (apply p_neS <;> rfl) | (apply p_eqNilSlice <;> rfl) | (apply p_neNilSlice <;> rfl)); (case hd => rfl)) | (apply v_condT; (case hc => rfl)) | (apply v_condF; (case hc => rfl)) | (apply v_cond; (case hc => rfl); all_goals (intro h; (try simp only [reduceCtorEq, dec_true, dec_false, decide_eq_true_eq, decide_eq_false_iff_not, Bool.not_eq_true', Bool.not_eq_false', Option.isNone_iff_eq_none, beq_true, beq_false, beq_iff_eq, beq_eq_false_iff_ne, ne_eq, decide_eq_decide, Bool.not_eq_true, Bool.not_eq_false, Decidable.not_not] at h); first | done | (exfalso; omega) | (exfalso; exact h (by with_reducible assumption)) | (exfalso; revert h; rw [imp_false]; with_reducible assumption) | skip)) | (apply v_guardB; (case h1 => rfl); (case h2 => rfl); all_goals (intro h; (try simp only [reduceCtorEq, dec_true, dec_false, decide_eq_true_eq, decide_eq_false_iff_not, Bool.not_eq_true', Bool.not_eq_false', Option.isNone_iff_eq_none, beq_true, beq_false, beq_iff_eq, beq_eq_false_iff_ne, ne_eq, decide_eq_decide, Bool.not_eq_true, Bool.not_eq_false, Decidable.not_not] at h); first | done | (exfalso; omega) | (exfalso; exact h (by with_reducible assumption)) | (exfalso; revert h; rw [imp_false]; with_reducible assumption) | skip)) | (apply v_nextS; (case hx => rfl); (case hb => (repeat (first | exact List.Mem.head _ | apply List.Mem.tail))); (case hp => assumption); (case hu => exact Upd.here _ _); (case hd => rfl)) | (apply v_read; (case hop => (apply r_nextEnd; (case hx => rfl); (case hb => (repeat (first | exact List.Mem.head _ | apply List.Mem.tail))); (case hp => assumption))); (case hd => rfl)) | (apply v_rangeS; (case hx => rfl); (case hd => rfl); intro b) | fail)
    refine v_ret [] (outsA1 rfl rfl) (by repeat (first | exact List.Sublist.refl _ | exact List.nil_sublist _ | apply List.Sublist.cons_cons | apply List.Sublist.cons | exact List.sublist_append_left _ _ | apply List.sublist_append_of_sublist_right)) ?_
    refine ⟨?_, rfl⟩
    rw [he, badR_end hp]
theorem whole_s {G : GH} (hT : TabsG G) {s : ByteArray} (hs : s.size ≤ 9223372036854775807) : Con Tryd.prog 112 #[.string s] G [] (Just (.bool (decide (badR s s.size 0 < 0))) G) := by
  refine v_enter Tryd.func112 rfl Tryd.ntmps112 rfl (fun B => ?_)
  repeat' (first | apply v_seq | apply v_region | apply v_nil | apply v_skip | apply v_block | apply v_blk | (apply v_exit; (case hp => rfl)) | (apply v_take; (case hg => rfl)) | (apply v_pass; (case hg => rfl); (case hn => rfl); (case hd => rfl)) | (apply v_passN; (case hg => rfl); (case hn => rfl); (case hd => rfl)) | (apply v_pure; (case hop => first | (apply p_move <;> rfl) | (apply p_lt <;> rfl) | (apply p_assign <;> rfl)); (case hd => rfl)) | (apply v_condT; (case hc => rfl)) | (apply v_condF; (case hc => rfl)) | (apply v_cond; (case hc => rfl); all_goals (intro h; (try simp only [reduceCtorEq, dec_true, dec_false, decide_eq_true_eq, decide_eq_false_iff_not, Bool.not_eq_true', Bool.not_eq_false', Option.isNone_iff_eq_none, beq_true, beq_false, beq_iff_eq, beq_eq_false_iff_ne, ne_eq, decide_eq_decide, Bool.not_eq_true, Bool.not_eq_false, Decidable.not_not] at h); first | done | (exfalso; omega) | (exfalso; exact h (by with_reducible assumption)) | (exfalso; revert h; rw [imp_false]; with_reducible assumption) | skip)) | (apply v_guardB; (case h1 => rfl); (case h2 => rfl); all_goals (intro h; (try simp only [reduceCtorEq, dec_true, dec_false, decide_eq_true_eq, decide_eq_false_iff_not, Bool.not_eq_true', Bool.not_eq_false', Option.isNone_iff_eq_none, beq_true, beq_false, beq_iff_eq, beq_eq_false_iff_ne, ne_eq, decide_eq_decide, Bool.not_eq_true, Bool.not_eq_false, Decidable.not_not] at h); first | done | (exfalso; omega) | (exfalso; exact h (by with_reducible assumption)) | (exfalso; revert h; rw [imp_false]; with_reducible assumption) | skip)) | (apply v_callJ (hs := bad_s ?o1 ?o2); (case ha => rfl); (case o1 => exact hT); (case o2 => exact hs); (case hd => rfl)) | fail)
  refine v_ret [] (outsA1 rfl rfl) (by repeat (first | exact List.Sublist.refl _ | exact List.nil_sublist _ | apply List.Sublist.cons_cons | apply List.Sublist.cons | exact List.sublist_append_left _ _ | apply List.sublist_append_of_sublist_right)) ?_
  exact ⟨by rw [dec_eq], rfl, rfl⟩
theorem plainR_s (G : GH) (r : Int) : Con Tryd.prog 114 #[.int .i32 r] G [] (Just (.bool (decide (plainP r))) G) := by
  refine v_enter Tryd.func114 rfl Tryd.ntmps114 rfl (fun B => ?_)
  repeat' (first | apply v_seq | apply v_region | apply v_nil | apply v_skip | apply v_block | apply v_blk | (apply v_exit; (case hp => rfl)) | (apply v_take; (case hg => rfl)) | (apply v_pass; (case hg => rfl); (case hn => rfl); (case hd => rfl)) | (apply v_passN; (case hg => rfl); (case hn => rfl); (case hd => rfl)) | (apply v_pure; (case hop => first | (apply p_move <;> rfl) | (apply p_eqs <;> rfl) | (apply p_nes <;> rfl) | (apply p_eqBs <;> rfl) | (apply p_neBs <;> rfl) | (apply p_eq <;> rfl) | (apply p_ne <;> rfl) | (apply p_le <;> rfl) | (apply p_ge <;> rfl) | (apply p_assign <;> rfl) | (apply p_pickT <;> rfl) | (apply p_pickF <;> rfl) | (apply p_eqB <;> rfl) | (apply p_neB <;> rfl) | (apply p_eqNil <;> rfl) | (apply p_neNil <;> rfl) | (apply p_pickAnd <;> rfl) | (apply p_pickOr <;> rfl) | (apply p_eqS <;> rfl) | (apply p_neS <;> rfl) | (apply p_eqNilSlice <;> rfl) | (apply p_neNilSlice <;> rfl)); (case hd => rfl)) | (apply v_condT; (case hc => rfl)) | (apply v_condF; (case hc => rfl)) | (apply v_cond; (case hc => rfl); all_goals (intro h; (try simp only [reduceCtorEq, dec_true, dec_false, decide_eq_true_eq, decide_eq_false_iff_not, Bool.not_eq_true', Bool.not_eq_false', Option.isNone_iff_eq_none, beq_true, beq_false, beq_iff_eq, beq_eq_false_iff_ne, ne_eq, decide_eq_decide, Bool.not_eq_true, Bool.not_eq_false, Decidable.not_not] at h); first | done | (exfalso; omega) | (exfalso; exact h (by with_reducible assumption)) | (exfalso; revert h; rw [imp_false]; with_reducible assumption) | skip)) | (apply v_guardB; (case h1 => rfl); (case h2 => rfl); all_goals (intro h; (try simp only [reduceCtorEq, dec_true, dec_false, decide_eq_true_eq, decide_eq_false_iff_not, Bool.not_eq_true', Bool.not_eq_false', Option.isNone_iff_eq_none, beq_true, beq_false, beq_iff_eq, beq_eq_false_iff_ne, ne_eq, decide_eq_decide, Bool.not_eq_true, Bool.not_eq_false, Decidable.not_not] at h); first | done | (exfalso; omega) | (exfalso; exact h (by with_reducible assumption)) | (exfalso; revert h; rw [imp_false]; with_reducible assumption) | skip)) | fail)
  all_goals
    (refine v_ret [] (outsA1 rfl rfl) (by repeat (first | exact List.Sublist.refl _ | exact List.nil_sublist _ | apply List.Sublist.cons_cons | apply List.Sublist.cons | exact List.sublist_append_left _ _ | apply List.sublist_append_of_sublist_right)) ?_
     refine ⟨?_, rfl, rfl⟩
     first
       | rw [decide_eq_true (by unfold plainP; omega)]
       | rw [decide_eq_false (by unfold plainP; omega)]
       | (by_cases hr : r = 65533
          · rw [dec_pos hr, decide_eq_false (by unfold plainP; omega)]; rfl
          · rw [dec_neg hr, decide_eq_true (by unfold plainP; omega)]; rfl))
theorem valR_s (G : GH) (r : Nat) : Con Tryd.prog 115 #[.int .i32 (r : Int)] G [] (Just (.bool (decide (32 ≤ r) && decide (r ≠ 127))) G) := by
  refine v_enter Tryd.func115 rfl Tryd.ntmps115 rfl (fun B => ?_)
  repeat' (first | apply v_seq | apply v_region | apply v_nil | apply v_skip | apply v_block | apply v_blk | (apply v_exit; (case hp => rfl)) | (apply v_take; (case hg => rfl)) | (apply v_pass; (case hg => rfl); (case hn => rfl); (case hd => rfl)) | (apply v_passN; (case hg => rfl); (case hn => rfl); (case hd => rfl)) | (apply v_pure; (case hop => first | (apply p_move <;> rfl) | (apply p_nes <;> rfl) | (apply p_neBs <;> rfl) | (apply p_ne <;> rfl) | (apply p_ge <;> rfl) | (apply p_assign <;> rfl) | (apply p_pickT <;> rfl) | (apply p_pickF <;> rfl) | (apply p_neB <;> rfl) | (apply p_neNil <;> rfl) | (apply p_pickAnd <;> rfl) | (apply p_pickOr <;> rfl) | (apply p_neS <;> rfl) | (apply p_neNilSlice <;> rfl)); (case hd => rfl)) | (apply v_condT; (case hc => rfl)) | (apply v_condF; (case hc => rfl)) | (apply v_cond; (case hc => rfl); all_goals (intro h; (try simp only [reduceCtorEq, dec_true, dec_false, decide_eq_true_eq, decide_eq_false_iff_not, Bool.not_eq_true', Bool.not_eq_false', Option.isNone_iff_eq_none, beq_true, beq_false, beq_iff_eq, beq_eq_false_iff_ne, ne_eq, decide_eq_decide, Bool.not_eq_true, Bool.not_eq_false, Decidable.not_not] at h); first | done | (exfalso; omega) | (exfalso; exact h (by with_reducible assumption)) | (exfalso; revert h; rw [imp_false]; with_reducible assumption) | skip)) | (apply v_guardB; (case h1 => rfl); (case h2 => rfl); all_goals (intro h; (try simp only [reduceCtorEq, dec_true, dec_false, decide_eq_true_eq, decide_eq_false_iff_not, Bool.not_eq_true', Bool.not_eq_false', Option.isNone_iff_eq_none, beq_true, beq_false, beq_iff_eq, beq_eq_false_iff_ne, ne_eq, decide_eq_decide, Bool.not_eq_true, Bool.not_eq_false, Decidable.not_not] at h); first | done | (exfalso; omega) | (exfalso; exact h (by with_reducible assumption)) | (exfalso; revert h; rw [imp_false]; with_reducible assumption) | skip)) | fail)
  all_goals
    (refine v_ret [] (outsA1 rfl rfl) (by repeat (first | exact List.Sublist.refl _ | exact List.nil_sublist _ | apply List.Sublist.cons_cons | apply List.Sublist.cons | exact List.sublist_append_left _ _ | apply List.sublist_append_of_sublist_right)) ?_
     refine ⟨?_, rfl, rfl⟩
     by_cases h2 : r = 127
     · first
         | rw [dec_pos (show (r : Int) = 127 by omega), decide_eq_false (p := r ≠ 127) (by omega), Bool.and_false]; rfl
         | rw [decide_eq_false (p := r ≠ 127) (by omega), Bool.and_false]
     · first
         | rw [dec_neg (show ¬ (r : Int) = 127 by omega), decide_eq_true (p := r ≠ 127) (by omega), decide_eq_true (p := 32 ≤ r) (by omega)]; rfl
         | rw [decide_eq_false (p := 32 ≤ r) (by omega), Bool.false_and])
theorem all_s {G : GH} {s : ByteArray} (hs : s.size ≤ 9223372036854775807) (fid : FuncId) [Callable Tryd.prog fid] (f : Nat → Bool) (hf : ∀ (r : Nat), Con Tryd.prog fid #[.int .i32 (r : Int)] G [] (Just (.bool (f r)) G)) :
    Con Tryd.prog 113 #[.string s, .func (.func fid) #[] #[]] G [] (Just (.bool (allF f s s.size 0)) G) := by
  apply Con.just
  refine v_enter Tryd.func113 rfl Tryd.ntmps113 rfl (fun B => ?_)
  repeat' (first | apply v_seq | apply v_region | apply v_nil | apply v_skip | apply v_block | apply v_blk | (apply v_exit; (case hp => rfl)) | (apply v_take; (case hg => rfl)) | (apply v_pass; (case hg => rfl); (case hn => rfl); (case hd => rfl)) | (apply v_passN; (case hg => rfl); (case hn => rfl); (case hd => rfl)) | (apply v_pure; (case hop => first | (apply p_move <;> rfl) | (apply p_assign <;> rfl) | (apply p_not <;> rfl) | (apply p_extract0 <;> rfl) | (apply p_extract1 <;> rfl) | (apply p_extract2 <;> rfl) | (apply p_extract <;> rfl)); (case hd => rfl)) | (apply v_condT; (case hc => rfl)) | (apply v_condF; (case hc => rfl)) | (apply v_cond; (case hc => rfl); all_goals (intro h; (try simp only [reduceCtorEq, dec_true, dec_false, decide_eq_true_eq, decide_eq_false_iff_not, Bool.not_eq_true', Bool.not_eq_false', Option.isNone_iff_eq_none, beq_true, beq_false, beq_iff_eq, beq_eq_false_iff_ne, ne_eq, decide_eq_decide, Bool.not_eq_true, Bool.not_eq_false, Decidable.not_not] at h); first | done | (exfalso; omega) | (exfalso; exact h (by with_reducible assumption)) | (exfalso; revert h; rw [imp_false]; with_reducible assumption) | skip)) | (apply v_guardB; (case h1 => rfl); (case h2 => rfl); all_goals (intro h; (try simp only [reduceCtorEq, dec_true, dec_false, decide_eq_true_eq, decide_eq_false_iff_not, Bool.not_eq_true', Bool.not_eq_false', Option.isNone_iff_eq_none, beq_true, beq_false, beq_iff_eq, beq_eq_false_iff_ne, ne_eq, decide_eq_decide, Bool.not_eq_true, Bool.not_eq_false, Decidable.not_not] at h); first | done | (exfalso; omega) | (exfalso; exact h (by with_reducible assumption)) | (exfalso; revert h; rw [imp_false]; with_reducible assumption) | skip)) | (apply v_rangeS; (case hx => rfl); (case hd => rfl); intro b) | fail)
  refine v_loopI (ι := Nat × Nat) [8, 1] (fun x us G' μ' => G' = G ∧ ∃ b, us = [Value.pointer (some ⟨b, 0, none⟩), .func (.func fid) #[] #[]] ∧ μ' = [(b, .stringIter s x.1)] ∧ s.size ≤ x.1 + x.2 ∧ allF f s s.size 0 = allF f s x.2 x.1) (fun x => s.size - x.1) rfl (0, s.size) ⟨rfl, _, rfl, rfl, by simp, rfl⟩ ?_
  rintro ⟨p, n⟩ us G' μ' ⟨rfl, b, rfl, rfl, hn, he⟩
  simp only at hn he
  by_cases hp : p < s.size
  · obtain ⟨m, rfl⟩ := fuel hp hn
    have hw := decode_w s p hp
    repeat' (first | apply v_seq | apply v_region | apply v_nil | apply v_skip | apply v_block | apply v_blk | (apply v_exit; (case hp => rfl)) | (apply v_take; (case hg => rfl)) | (apply v_pass; (case hg => rfl); (case hn => rfl); (case hd => rfl)) | (apply v_passN; (case hg => rfl); (case hn => rfl); (case hd => rfl)) | (apply v_pure; (case hop => first | (apply p_move <;> rfl) | (apply p_assign <;> rfl) | (apply p_not <;> rfl) | (apply p_extract0 <;> rfl) | (apply p_extract1 <;> rfl) | (apply p_extract2 <;> rfl) | (apply p_extract <;> rfl)); (case hd => rfl)) | (apply v_condT; (case hc => rfl)) | (apply v_condF; (case hc => rfl)) | (apply v_cond; (case hc => rfl); all_goals (intro h; (try simp only [reduceCtorEq, dec_true, dec_false, decide_eq_true_eq, decide_eq_false_iff_not, Bool.not_eq_true', Bool.not_eq_false', Option.isNone_iff_eq_none, beq_true, beq_false, beq_iff_eq, beq_eq_false_iff_ne, ne_eq, decide_eq_decide, Bool.not_eq_true, Bool.not_eq_false, Decidable.not_not] at h); first | done | (exfalso; omega) | (exfalso; exact h (by with_reducible assumption)) | (exfalso; revert h; rw [imp_false]; with_reducible assumption) | skip)) | (apply v_guardB; (case h1 => rfl); (case h2 => rfl); all_goals (intro h; (try simp only [reduceCtorEq, dec_true, dec_false, decide_eq_true_eq, decide_eq_false_iff_not, Bool.not_eq_true', Bool.not_eq_false', Option.isNone_iff_eq_none, beq_true, beq_false, beq_iff_eq, beq_eq_false_iff_ne, ne_eq, decide_eq_decide, Bool.not_eq_true, Bool.not_eq_false, Decidable.not_not] at h); first | done | (exfalso; omega) | (exfalso; exact h (by with_reducible assumption)) | (exfalso; revert h; rw [imp_false]; with_reducible assumption) | skip)) | (apply v_nextS; (case hx => rfl); (case hb => (repeat (first | exact List.Mem.head _ | apply List.Mem.tail))); (case hp => assumption); (case hu => exact Upd.here _ _); (case hd => rfl)) | (apply v_read; (case hop => (apply r_nextEnd; (case hx => rfl); (case hb => (repeat (first | exact List.Mem.head _ | apply List.Mem.tail))); (case hp => assumption))); (case hd => rfl)) | (apply v_callFJ0 (hs := hf (Utf8.decode s p).1); (case hx => rfl); (case ha => rfl); (case hd => rfl)) | (apply v_rangeS; (case hx => rfl); (case hd => rfl); intro b) | fail)
    · refine v_ret [] (outsA1 rfl rfl) (by repeat (first | exact List.Sublist.refl _ | exact List.nil_sublist _ | apply List.Sublist.cons_cons | apply List.Sublist.cons | exact List.sublist_append_left _ _ | apply List.sublist_append_of_sublist_right)) ?_
      refine ⟨?_, rfl⟩
      rw [he, allF, if_pos hp, if_neg (by rw [h]; simp)]
    · refine v_againI (p + (Utf8.decode s p).2, m) rfl ⟨rfl, b, rfl, rfl, by simp only; omega, ?_⟩ (by simp only; omega)
      rw [he, allF, if_pos hp, if_pos (by assumption)]
  · repeat' (first | apply v_seq | apply v_region | apply v_nil | apply v_skip | apply v_block | apply v_blk | (apply v_exit; (case hp => rfl)) | (apply v_take; (case hg => rfl)) | (apply v_pass; (case hg => rfl); (case hn => rfl); (case hd => rfl)) | (apply v_passN; (case hg => rfl); (case hn => rfl); (case hd => rfl)) | (apply v_pure; (case hop => first | (apply p_move <;> rfl) | (apply p_assign <;> rfl) | (apply p_not <;> rfl) | (apply p_extract0 <;> rfl) | (apply p_extract1 <;> rfl) | (apply p_extract2 <;> rfl) | (apply p_extract <;> rfl)); (case hd => rfl)) | (apply v_condT; (case hc => rfl)) | (apply v_condF; (case hc => rfl)) | (apply v_cond; (case hc => rfl); all_goals (intro h; (try simp only [reduceCtorEq, dec_true, dec_false, decide_eq_true_eq, decide_eq_false_iff_not, Bool.not_eq_true', Bool.not_eq_false', Option.isNone_iff_eq_none, beq_true, beq_false, beq_iff_eq, beq_eq_false_iff_ne, ne_eq, decide_eq_decide, Bool.not_eq_true, Bool.not_eq_false, Decidable.not_not] at h); first | done | (exfalso; omega) | (exfalso; exact h (by with_reducible assumption)) | (exfalso; revert h; rw [imp_false]; with_reducible assumption) | skip)) | (apply v_guardB; (case h1 => rfl); (case h2 => rfl); all_goals (intro h; (try simp only [reduceCtorEq, dec_true, dec_false, decide_eq_true_eq, decide_eq_false_iff_not, Bool.not_eq_true', Bool.not_eq_false', Option.isNone_iff_eq_none, beq_true, beq_false, beq_iff_eq, beq_eq_false_iff_ne, ne_eq, decide_eq_decide, Bool.not_eq_true, Bool.not_eq_false, Decidable.not_not] at h); first | done | (exfalso; omega) | (exfalso; exact h (by with_reducible assumption)) | (exfalso; revert h; rw [imp_false]; with_reducible assumption) | skip)) | (apply v_nextS; (case hx => rfl); (case hb => (repeat (first | exact List.Mem.head _ | apply List.Mem.tail))); (case hp => assumption); (case hu => exact Upd.here _ _); (case hd => rfl)) | (apply v_read; (case hop => (apply r_nextEnd; (case hx => rfl); (case hb => (repeat (first | exact List.Mem.head _ | apply List.Mem.tail))); (case hp => assumption))); (case hd => rfl)) | (apply v_rangeS; (case hx => rfl); (case hd => rfl); intro b) | fail)
    refine v_ret [] (outsA1 rfl rfl) (by repeat (first | exact List.Sublist.refl _ | exact List.nil_sublist _ | apply List.Sublist.cons_cons | apply List.Sublist.cons | exact List.sublist_append_left _ _ | apply List.sublist_append_of_sublist_right)) ?_
    refine ⟨?_, rfl⟩
    rw [he, allF_end hp]
theorem key_s {G : GH} (hT : TabsG G) {s : ByteArray} (hs : s.size ≤ 9223372036854775807) : Con Tryd.prog 96 #[.string s] G [] (Just (.bool (keyB s)) G) := by
  have hall := all_s (G := G) hs 114 (fun r => decide (plainP (r : Int))) (fun r => plainR_s G r)
  have hk := allF_plain s s.size 0 (by omega)
  refine v_enter Tryd.func96 rfl Tryd.ntmps96 rfl (fun B => ?_)
  repeat' (first | apply v_seq | apply v_region | apply v_nil | apply v_skip | apply v_block | apply v_blk | (apply v_exit; (case hp => rfl)) | (apply v_take; (case hg => rfl)) | (apply v_pass; (case hg => rfl); (case hn => rfl); (case hd => rfl)) | (apply v_passN; (case hg => rfl); (case hn => rfl); (case hd => rfl)) | (apply v_pure; (case hop => first | (apply p_move <;> rfl) | (apply p_nes <;> rfl) | (apply p_neBs <;> rfl) | (apply p_ne <;> rfl) | (apply p_le <;> rfl) | (apply p_assign <;> rfl) | (apply p_pickT <;> rfl) | (apply p_pickF <;> rfl) | (apply p_lenSlice <;> rfl) | (apply p_lenString <;> rfl) | (apply p_neB <;> rfl) | (apply p_neNil <;> rfl) | (apply p_pickAnd <;> rfl) | (apply p_pickOr <;> rfl) | (apply p_neS <;> rfl) | (apply p_neNilSlice <;> rfl)); (case hd => rfl)) | (apply v_condT; (case hc => rfl)) | (apply v_condF; (case hc => rfl)) | (apply v_cond; (case hc => rfl); all_goals (intro h; (try simp only [reduceCtorEq, dec_true, dec_false, decide_eq_true_eq, decide_eq_false_iff_not, Bool.not_eq_true', Bool.not_eq_false', Option.isNone_iff_eq_none, beq_true, beq_false, beq_iff_eq, beq_eq_false_iff_ne, ne_eq, decide_eq_decide, Bool.not_eq_true, Bool.not_eq_false, Decidable.not_not] at h); first | done | (exfalso; omega) | (exfalso; exact h (by with_reducible assumption)) | (exfalso; revert h; rw [imp_false]; with_reducible assumption) | skip)) | (apply v_guardB; (case h1 => rfl); (case h2 => rfl); all_goals (intro h; (try simp only [reduceCtorEq, dec_true, dec_false, decide_eq_true_eq, decide_eq_false_iff_not, Bool.not_eq_true', Bool.not_eq_false', Option.isNone_iff_eq_none, beq_true, beq_false, beq_iff_eq, beq_eq_false_iff_ne, ne_eq, decide_eq_decide, Bool.not_eq_true, Bool.not_eq_false, Decidable.not_not] at h); first | done | (exfalso; omega) | (exfalso; exact h (by with_reducible assumption)) | (exfalso; revert h; rw [imp_false]; with_reducible assumption) | skip)) | (apply v_callJ (hs := whole_s hT hs); (case ha => rfl); (case hd => rfl)) | (apply v_callJ (hs := hall); (case ha => rfl); (case hd => rfl)) | fail)
  · refine v_ret [] (outsA1 rfl rfl) (by repeat (first | exact List.Sublist.refl _ | exact List.nil_sublist _ | apply List.Sublist.cons_cons | apply List.Sublist.cons | exact List.sublist_append_left _ _ | apply List.sublist_append_of_sublist_right)) ?_
    refine ⟨?_, rfl, rfl⟩
    have h0 : 1 ≤ s.size := by
      apply Classical.byContradiction
      intro h0
      have : s = ByteArray.empty := by
        apply ByteArray.ext
        apply Array.eq_empty_of_size_eq_zero
        show s.size = 0
        omega
      exact absurd this (by assumption)
    rw [keyB, ← hk, decide_eq_true h0, decide_eq_true (by omega), decide_eq_true (by assumption)]; rfl
  · refine v_ret [] (outsA1 rfl rfl) (by repeat (first | exact List.Sublist.refl _ | exact List.nil_sublist _ | apply List.Sublist.cons_cons | apply List.Sublist.cons | exact List.sublist_append_left _ _ | apply List.sublist_append_of_sublist_right)) ?_
    refine ⟨?_, rfl, rfl⟩
    rw [keyB, ← hk, decide_eq_false (p := badR s s.size 0 < 0) (by assumption), Bool.false_and, Bool.and_false]
  · refine v_ret [] (outsA1 rfl rfl) (by repeat (first | exact List.Sublist.refl _ | exact List.nil_sublist _ | apply List.Sublist.cons_cons | apply List.Sublist.cons | exact List.sublist_append_left _ _ | apply List.sublist_append_of_sublist_right)) ?_
    refine ⟨?_, rfl, rfl⟩
    rw [keyB, decide_eq_false (p := s.size ≤ 24) (by omega), Bool.and_false, Bool.false_and]
  · refine v_ret [] (outsA1 rfl rfl) (by repeat (first | exact List.Sublist.refl _ | exact List.nil_sublist _ | apply List.Sublist.cons_cons | apply List.Sublist.cons | exact List.sublist_append_left _ _ | apply List.sublist_append_of_sublist_right)) ?_
    refine ⟨?_, rfl, rfl⟩
    have h0 : s.size = 0 := by rw [h]; rfl
    rw [keyB, decide_eq_false (p := 1 ≤ s.size) (by omega), Bool.false_and, Bool.false_and]
theorem val_s {G : GH} (hT : TabsG G) {s : ByteArray} (hs : s.size ≤ 9223372036854775807) : Con Tryd.prog 98 #[.string s] G [] (Just (.bool (valB s)) G) := by
  have hall := all_s (G := G) hs 115 (fun r => decide (32 ≤ r) && decide (r ≠ 127)) (fun r => valR_s G r)
  have hv := allF_val s s.size 0 (by omega)
  refine v_enter Tryd.func98 rfl Tryd.ntmps98 rfl (fun B => ?_)
  repeat' (first | apply v_seq | apply v_region | apply v_nil | apply v_skip | apply v_block | apply v_blk | (apply v_exit; (case hp => rfl)) | (apply v_take; (case hg => rfl)) | (apply v_pass; (case hg => rfl); (case hn => rfl); (case hd => rfl)) | (apply v_passN; (case hg => rfl); (case hn => rfl); (case hd => rfl)) | (apply v_pure; (case hop => first | (apply p_move <;> rfl) | (apply p_le <;> rfl) | (apply p_assign <;> rfl) | (apply p_pickT <;> rfl) | (apply p_pickF <;> rfl) | (apply p_lenSlice <;> rfl) | (apply p_lenString <;> rfl) | (apply p_pickAnd <;> rfl) | (apply p_pickOr <;> rfl)); (case hd => rfl)) | (apply v_condT; (case hc => rfl)) | (apply v_condF; (case hc => rfl)) | (apply v_cond; (case hc => rfl); all_goals (intro h; (try simp only [reduceCtorEq, dec_true, dec_false, decide_eq_true_eq, decide_eq_false_iff_not, Bool.not_eq_true', Bool.not_eq_false', Option.isNone_iff_eq_none, beq_true, beq_false, beq_iff_eq, beq_eq_false_iff_ne, ne_eq, decide_eq_decide, Bool.not_eq_true, Bool.not_eq_false, Decidable.not_not] at h); first | done | (exfalso; omega) | (exfalso; exact h (by with_reducible assumption)) | (exfalso; revert h; rw [imp_false]; with_reducible assumption) | skip)) | (apply v_guardB; (case h1 => rfl); (case h2 => rfl); all_goals (intro h; (try simp only [reduceCtorEq, dec_true, dec_false, decide_eq_true_eq, decide_eq_false_iff_not, Bool.not_eq_true', Bool.not_eq_false', Option.isNone_iff_eq_none, beq_true, beq_false, beq_iff_eq, beq_eq_false_iff_ne, ne_eq, decide_eq_decide, Bool.not_eq_true, Bool.not_eq_false, Decidable.not_not] at h); first | done | (exfalso; omega) | (exfalso; exact h (by with_reducible assumption)) | (exfalso; revert h; rw [imp_false]; with_reducible assumption) | skip)) | (apply v_callJ (hs := whole_s hT hs); (case ha => rfl); (case hd => rfl)) | (apply v_callJ (hs := hall); (case ha => rfl); (case hd => rfl)) | fail)
  · refine v_ret [] (outsA1 rfl rfl) (by repeat (first | exact List.Sublist.refl _ | exact List.nil_sublist _ | apply List.Sublist.cons_cons | apply List.Sublist.cons | exact List.sublist_append_left _ _ | apply List.sublist_append_of_sublist_right)) ?_
    refine ⟨?_, rfl, rfl⟩
    have hv' := hv (by assumption)
    have e : allF (fun r => decide (32 ≤ r) && decide (r ≠ 127)) s s.size 0 = decide (okBytes s) := by
      rw [Bool.eq_iff_iff, hv', decide_eq_true_iff]
      exact ⟨fun h i hi => h i (by omega) hi, fun h i _ hi => h i hi⟩
    rw [valB, e, decide_eq_true (p := s.size ≤ 48) (by omega), decide_eq_true (p := badR s s.size 0 < 0) (by assumption)]; rfl
  · refine v_ret [] (outsA1 rfl rfl) (by repeat (first | exact List.Sublist.refl _ | exact List.nil_sublist _ | apply List.Sublist.cons_cons | apply List.Sublist.cons | exact List.sublist_append_left _ _ | apply List.sublist_append_of_sublist_right)) ?_
    refine ⟨?_, rfl, rfl⟩
    rw [valB, decide_eq_false (p := badR s s.size 0 < 0) (by assumption), Bool.and_false, Bool.false_and]
  · refine v_ret [] (outsA1 rfl rfl) (by repeat (first | exact List.Sublist.refl _ | exact List.nil_sublist _ | apply List.Sublist.cons_cons | apply List.Sublist.cons | exact List.sublist_append_left _ _ | apply List.sublist_append_of_sublist_right)) ?_
    refine ⟨?_, rfl, rfl⟩
    rw [valB, decide_eq_false (p := s.size ≤ 48) (by omega), Bool.false_and, Bool.false_and]
end Go.Proofs.YtfckggkmiegokaaDoor
