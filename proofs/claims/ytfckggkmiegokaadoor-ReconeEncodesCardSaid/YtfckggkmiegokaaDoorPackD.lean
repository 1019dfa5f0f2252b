/-
  pack, the fourth part: texts.
-/
import Derived.Test.YtfckggkmiegokaaDoorPackC
import Derived.Laws.IdiomStrings
set_option linter.unusedSimpArgs false
set_option linter.unusedVariables false
namespace Go.Proofs.YtfckggkmiegokaaDoor
open Go.Vx Go.ChangeShapes Go.WideShapes Go.ChangeAt Go.RowKit
/-- The bytes of a string, as numbers. -/
def sbytes (s : ByteArray) : List Int := s.data.toList.map fun b => (b.toNat : Int)
theorem sbytes_length (s : ByteArray) : (sbytes s).length = s.size := by
  rw [sbytes, List.length_map, Array.length_toList]
  rfl
attribute [local semireducible] MoveOp in
theorem m_convSB {P : Program} {ty src dst e : TypeId} {σ : Env} {G : GH} {μ : OH} {x : Operand} {s : ByteArray} (hS : P.underlying src = some .string) (hD : P.underlying dst = some (.slice e)) (hE : P.underlying e = some (.int .u8)) (hx : Env.ev σ x = some (.string s)) (hs : s.size ≤ maxLen) :
    MoveOp P (.convert src dst x) ty σ G μ (fun v' G' μ' => ∃ b cap m, v' = .slice (some ⟨b, 0, none⟩) s.size cap ∧ s.size ≤ cap ∧ cap ≤ maxLen ∧ G' = G ∧ μ' = (b, .cells (bytesRow s cap) e m) :: μ) := by
  intro dst' pos af g ρ hρ w hw a K Q hK
  have hr := run_bytes_of_string (P := P) w src dst e s hS hD hE
  have hex : (execOp ρ ⟨dst', .convert src dst x, ty, pos, af, g⟩).run P w = .ok (.value (.slice (some ⟨w.heap.size, 0, none⟩) s.size (grownCap w s.size 0 e)))
      (w.drew.alloc (.cells (bytesRow s (grownCap w s.size 0 e)) e ((bytesRow s (grownCap w s.size 0 e)).size, (bytesRow s (grownCap w s.size 0 e)).size + 1))) := by
    simp [execOp, hρ _ _ hx, hr]
  rw [hex]
  have hst := (Step.drew hw 1).trans (Step.alloc (Step.drew hw 1).mem (.cells (bytesRow s (grownCap w s.size 0 e)) e ((bytesRow s (grownCap w s.size 0 e)).size, (bytesRow s (grownCap w s.size 0 e)).size + 1)))
  exact hK _ _ G _ hst ⟨_, _, _, rfl, grownCap_ge w s.size 0 e, grownCap_le_maxLen w s.size 0 e hs, rfl, rfl⟩
theorem sl_bytes {G : GH} {b cap : Nat} {s : ByteArray} {e : TypeId} {m : Nat × Nat} (h : G b = some (.cells (bytesRow s cap) e m)) (h1 : s.size ≤ cap) (h2 : cap ≤ maxLen) : Sl G 1 (IntR .u8) (.slice (some ⟨b, 0, none⟩) s.size cap) (sbytes s) := by
  refine ⟨some ⟨b, 0, none⟩, cap, by rw [sbytes_length], by rw [sbytes_length]; exact h1, h2, fun h0 => ⟨_, rfl, fun i y hy => ?_⟩⟩
  have hi : i < s.data.size := by
    have := (List.getElem?_eq_some_iff.1 hy).1
    rw [sbytes_length] at this
    exact this
  simp only [sbytes, List.getElem?_map, Array.getElem?_toList, Array.getElem?_eq_getElem hi, Option.map_some, Option.some.injEq] at hy
  subst hy
  refine ⟨[.int .u8 ((s.data[i]).toNat : Int)], rfl, ⟨rfl, ?_⟩, ?_⟩
  · have := (s.data[i]).toNat_lt
    exact WalkArith.wf_u8 (by omega)
  · intro j u hu
    have hj : j = 0 := by have := (List.getElem?_eq_some_iff.1 hu).1; simp at this; exact this
    subst hj
    simp only [List.getElem?_cons_zero, Option.some.injEq] at hu
    subst hu
    rw [add_mk, add_mk]
    simp only [GH.cell?, h, Option.isSome_none, Bool.false_eq_true, if_false, Nat.zero_add, Nat.mul_one, Nat.add_zero]
    exact bytesRow_at s cap i hi
theorem wtext_s {G : GH} {l : List Int} {sv : Value} (wb : Nat) (s : ByteArray) (hs : Sl G 1 (IntR .u8) sv l) (hl : l.length ≤ 100000) (hz : s.size ≤ 100000) :
    Con Tryd.prog 107 #[.pointer (some ⟨wb, 0, none⟩), .string s] G [(wb, .cells [sv].toArray 73 (0, 0))]
      (fun r G' μ' => ∃ v', μ' = [(wb, .cells [v'].toArray 73 (0, 0))] ∧ Sl G' 1 (IntR .u8) v' (l ++ vbytes s.size ++ sbytes s)) := by
  refine v_enter Tryd.func107 rfl Tryd.ntmps107 rfl (fun B => ?_)
  repeat' (first | apply v_seq | apply v_region | apply v_nil | apply v_skip | apply v_block | apply v_blk | (apply v_exit; (case hp => rfl)) | (apply v_take; (case hg => rfl)) | (apply v_pass; (case hg => rfl); (case hn => rfl); (case hd => rfl)) | (apply v_passN; (case hg => rfl); (case hn => rfl); (case hd => rfl)) | (apply v_pure; (case hop => first | (apply p_move <;> rfl) | (apply p_convS <;> rfl) | (apply p_convB <;> rfl) | (apply p_conv64; (case hx => rfl); (case h => omega))); (case hd => rfl)) | (apply v_condT; (case hc => rfl)) | (apply v_condF; (case hc => rfl)) | (apply v_cond; (case hc => rfl); all_goals (intro h; (try simp only [reduceCtorEq, dec_true, dec_false, decide_eq_true_eq, decide_eq_false_iff_not, Bool.not_eq_true', Bool.not_eq_false', Option.isNone_iff_eq_none, beq_true, beq_false, beq_iff_eq, beq_eq_false_iff_ne, ne_eq, decide_eq_decide, Bool.not_eq_true, Bool.not_eq_false, Decidable.not_not] at h); first | done | (exfalso; omega) | (exfalso; exact h (by with_reducible assumption)) | (exfalso; revert h; rw [imp_false]; with_reducible assumption) | skip)) | (apply v_guardB; (case h1 => rfl); (case h2 => rfl); all_goals (intro h; (try simp only [reduceCtorEq, dec_true, dec_false, decide_eq_true_eq, decide_eq_false_iff_not, Bool.not_eq_true', Bool.not_eq_false', Option.isNone_iff_eq_none, beq_true, beq_false, beq_iff_eq, beq_eq_false_iff_ne, ne_eq, decide_eq_decide, Bool.not_eq_true, Bool.not_eq_false, Decidable.not_not] at h); first | done | (exfalso; omega) | (exfalso; exact h (by with_reducible assumption)) | (exfalso; revert h; rw [imp_false]; with_reducible assumption) | skip)) | fail)
  refine v_move (m_convSB Tryd.underlying9 Tryd.underlying26 Tryd.underlying5 rfl (by simp only [maxLen]; omega)) rfl ?_
  rintro v G' μ' ⟨b, cap, m, rfl, h1, h2, rfl, rfl⟩
  refine v_freeze1 fun G1 hle hb => ?_
  have hsb := sl_bytes hb h1 h2
  repeat' (first | apply v_seq | apply v_region | apply v_nil | apply v_skip | apply v_block | apply v_blk | (apply v_exit; (case hp => rfl)) | (apply v_take; (case hg => rfl)) | (apply v_pass; (case hg => rfl); (case hn => rfl); (case hd => rfl)) | (apply v_passN; (case hg => rfl); (case hn => rfl); (case hd => rfl)) | (apply v_pure; (case hop => first | (apply p_move <;> rfl) | (apply p_convS <;> rfl) | (apply p_convB <;> rfl) | (apply p_conv64; (case hx => rfl); (case h => omega))); (case hd => rfl)) | (apply v_condT; (case hc => rfl)) | (apply v_condF; (case hc => rfl)) | (apply v_cond; (case hc => rfl); all_goals (intro h; (try simp only [reduceCtorEq, dec_true, dec_false, decide_eq_true_eq, decide_eq_false_iff_not, Bool.not_eq_true', Bool.not_eq_false', Option.isNone_iff_eq_none, beq_true, beq_false, beq_iff_eq, beq_eq_false_iff_ne, ne_eq, decide_eq_decide, Bool.not_eq_true, Bool.not_eq_false, Decidable.not_not] at h); first | done | (exfalso; omega) | (exfalso; exact h (by with_reducible assumption)) | (exfalso; revert h; rw [imp_false]; with_reducible assumption) | skip)) | (apply v_guardB; (case h1 => rfl); (case h2 => rfl); all_goals (intro h; (try simp only [reduceCtorEq, dec_true, dec_false, decide_eq_true_eq, decide_eq_false_iff_not, Bool.not_eq_true', Bool.not_eq_false', Option.isNone_iff_eq_none, beq_true, beq_false, beq_iff_eq, beq_eq_false_iff_ne, ne_eq, decide_eq_decide, Bool.not_eq_true, Bool.not_eq_false, Decidable.not_not] at h); first | done | (exfalso; omega) | (exfalso; exact h (by with_reducible assumption)) | (exfalso; revert h; rw [imp_false]; with_reducible assumption) | skip)) | fail)
  have qr := wraw_s wb (hs.mono hle) hsb hl (by rw [sbytes_length]; omega)
  rw [sbytes_length] at qr
  refine v_call (μ1 := [(wb, _)]) (μ2 := _) rfl qr (List.Perm.refl _) rfl ?_
  rintro r G2 μ2 - ⟨v', rfl, hv⟩
  repeat' (first | apply v_seq | apply v_region | apply v_nil | apply v_skip | apply v_block | apply v_blk | (apply v_exit; (case hp => rfl)) | (apply v_take; (case hg => rfl)) | (apply v_pass; (case hg => rfl); (case hn => rfl); (case hd => rfl)) | (apply v_passN; (case hg => rfl); (case hn => rfl); (case hd => rfl)) | (apply v_pure; (case hop => first | (apply p_move <;> rfl) | (apply p_convS <;> rfl) | (apply p_convB <;> rfl) | (apply p_conv64; (case hx => rfl); (case h => omega))); (case hd => rfl)) | (apply v_condT; (case hc => rfl)) | (apply v_condF; (case hc => rfl)) | (apply v_cond; (case hc => rfl); all_goals (intro h; (try simp only [reduceCtorEq, dec_true, dec_false, decide_eq_true_eq, decide_eq_false_iff_not, Bool.not_eq_true', Bool.not_eq_false', Option.isNone_iff_eq_none, beq_true, beq_false, beq_iff_eq, beq_eq_false_iff_ne, ne_eq, decide_eq_decide, Bool.not_eq_true, Bool.not_eq_false, Decidable.not_not] at h); first | done | (exfalso; omega) | (exfalso; exact h (by with_reducible assumption)) | (exfalso; revert h; rw [imp_false]; with_reducible assumption) | skip)) | (apply v_guardB; (case h1 => rfl); (case h2 => rfl); all_goals (intro h; (try simp only [reduceCtorEq, dec_true, dec_false, decide_eq_true_eq, decide_eq_false_iff_not, Bool.not_eq_true', Bool.not_eq_false', Option.isNone_iff_eq_none, beq_true, beq_false, beq_iff_eq, beq_eq_false_iff_ne, ne_eq, decide_eq_decide, Bool.not_eq_true, Bool.not_eq_false, Decidable.not_not] at h); first | done | (exfalso; omega) | (exfalso; exact h (by with_reducible assumption)) | (exfalso; revert h; rw [imp_false]; with_reducible assumption) | skip)) | fail)
  refine v_end [(wb, _)] (outsA0 rfl) (by repeat (first | exact List.Sublist.refl _ | exact List.nil_sublist _ | apply List.Sublist.cons_cons | apply List.Sublist.cons | exact List.sublist_append_left _ _ | apply List.sublist_append_of_sublist_right)) ?_
  exact ⟨_, rfl, hv⟩
end Go.Proofs.YtfckggkmiegokaaDoor
