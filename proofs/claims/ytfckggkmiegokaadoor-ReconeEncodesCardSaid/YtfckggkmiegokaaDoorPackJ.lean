/-
  pack, the eighth part: a reader's texts.
-/
import Derived.Test.YtfckggkmiegokaaDoorPackI
import Derived.Laws.BytesArg
set_option linter.unusedSimpArgs false
set_option linter.unusedVariables false
namespace Go.Proofs.YtfckggkmiegokaaDoor
open Go.Vx Go.ChangeShapes Go.WideShapes Go.ChangeAt Go.RowKit
/-- The string of bytes that are numbers. -/
def strL (l : List Int) : ByteArray := ⟨(l.map fun n => UInt8.ofNat n.toNat).toArray⟩
theorem sbytes_strL {l : List Int} (h : ∀ x ∈ l, 0 ≤ x ∧ x ≤ 255) : sbytes (strL l) = l := by
  unfold sbytes strL
  simp only [List.map_map]
  conv => rhs; rw [← List.map_id l]
  refine List.map_congr_left fun x hx => ?_
  have := h x hx
  simp only [Function.comp, UInt8.toNat_ofNat', id]
  omega
theorem strL_sbytes (s : ByteArray) : strL (sbytes s) = s := by
  unfold sbytes strL
  simp only [List.map_map]
  have : (s.data.toList.map ((fun n : Int => UInt8.ofNat n.toNat) ∘ fun b : UInt8 => (b.toNat : Int))) = s.data.toList := by
    conv => rhs; rw [← List.map_id s.data.toList]
    refine List.map_congr_left fun x hx => ?_
    simp
  rw [this]
theorem strL_size (l : List Int) : (strL l).size = l.length := by
  show (l.map fun n => UInt8.ofNat n.toNat).toArray.size = _
  simp
attribute [local semireducible] ReadOp in
theorem r_convBS {P : Program} {ty src dst e : TypeId} {σ : Env} {G : GH} {μ : OH} {x : Operand} {A : Option Addr} {c : Nat} {l : List Int} (hS : P.underlying src = some (.slice e)) (hE : P.underlying e = some (.int .u8)) (hD : P.underlying dst = some .string) (hx : Env.ev σ x = some (.slice A l.length c)) (hs : Sl G 1 (IntR .u8) (.slice A l.length c) l) :
    ReadOp P (.convert src dst x) ty σ G μ (.string (strL l)) := by
  intro d pos af g ρ hρ w hw
  obtain ⟨A', c', hv, hlc, hcm, hsome, hel, hwf⟩ := hs.openInt
  injection hv with e1 _ e2
  subst e1; subst e2
  have key : (convert src dst (.slice A l.length c)).run P w = .ok (.string (strL l)) w := by
    cases A with
    | none =>
      have : l = [] := by
        cases l with
        | nil => rfl
        | cons a l => have := hsome (by simp); simp at this
      subst this
      exact run_convert_bytes_nil w src e hS hE _ _ dst hD
    | some a =>
      have h := run_convert_bytes_back (P := P) w src dst e a c (l.map fun n => UInt8.ofNat n.toNat) hS hE hD (fun j hj => by
        rw [List.length_map] at hj
        have h1 := (Cell.frozen (μ := μ) (hel j hj)) w hw
        have h2 := hwf _ (List.getElem_mem hj)
        simp [Lit.wf, IntKind.min, IntKind.max, IntKind.signed, IntKind.bits] at h2
        simp only [adr, Option.getD_some, Nat.mul_one] at h1
        rw [h1, List.getElem_map, UInt8.toNat_ofNat']
        congr 2
        omega)
      rw [List.length_map] at h
      exact h
  simp [execOp, hρ _ _ hx, key]
theorem rdText_s {G : GH} {l : List Int} {bv : Value} {s : Option (List Int)} (rb a : Nat) (no most : Int) (hs : Sl G 1 (IntR .u8) bv l) (hl : l.length ≤ 1048576) (hr : RdS l a no s) :
    Con Tryd.prog 110 #[.pointer (some ⟨rb, 0, none⟩), .int .i64 most] G [(rb, rdO bv a no)]
      (fun r G' μ' => r = .string (strL (rawB most s)) ∧ ∃ a' no', μ' = [(rb, rdO bv (a' : Nat) no')] ∧ RdS l a' no' (rawS most s)) := by
  have q := rdRaw_s rb a no most hs hl hr
  generalize rawB most s = rl at *
  refine v_enter Tryd.func110 rfl Tryd.ntmps110 rfl (fun B => ?_)
  repeat' (first | apply v_seq | apply v_region | apply v_nil | apply v_skip | apply v_block | apply v_blk | (apply v_exit; (case hp => rfl)) | (apply v_take; (case hg => rfl)) | (apply v_pass; (case hg => rfl); (case hn => rfl); (case hd => rfl)) | (apply v_passN; (case hg => rfl); (case hn => rfl); (case hd => rfl)) | (apply v_pure; (case hop => first | (apply p_move <;> rfl) | (apply p_assign <;> rfl) | (apply p_convS <;> rfl) | (apply p_convB <;> rfl) | (apply p_conv64; (case hx => rfl); (case h => omega))); (case hd => rfl)) | (apply v_condT; (case hc => rfl)) | (apply v_condF; (case hc => rfl)) | (apply v_cond; (case hc => rfl); all_goals (intro h; (try simp only [reduceCtorEq, dec_true, dec_false, decide_eq_true_eq, decide_eq_false_iff_not, Bool.not_eq_true', Bool.not_eq_false', Option.isNone_iff_eq_none, beq_true, beq_false, beq_iff_eq, beq_eq_false_iff_ne, ne_eq, decide_eq_decide, Bool.not_eq_true, Bool.not_eq_false, Decidable.not_not] at h); first | done | (exfalso; omega) | (exfalso; exact h (by with_reducible assumption)) | (exfalso; revert h; rw [imp_false]; with_reducible assumption) | skip)) | (apply v_guardB; (case h1 => rfl); (case h2 => rfl); all_goals (intro h; (try simp only [reduceCtorEq, dec_true, dec_false, decide_eq_true_eq, decide_eq_false_iff_not, Bool.not_eq_true', Bool.not_eq_false', Option.isNone_iff_eq_none, beq_true, beq_false, beq_iff_eq, beq_eq_false_iff_ne, ne_eq, decide_eq_decide, Bool.not_eq_true, Bool.not_eq_false, Decidable.not_not] at h); first | done | (exfalso; omega) | (exfalso; exact h (by with_reducible assumption)) | (exfalso; revert h; rw [imp_false]; with_reducible assumption) | skip)) | fail)
  refine v_call (μ1 := [(rb, rdO bv a no)]) (μ2 := []) rfl q (List.Perm.refl _) rfl ?_
  rintro r G1 _ hle ⟨h1, a', no', rfl, hr'⟩
  obtain ⟨A1, c1, rfl, -⟩ := h1.openInt
  repeat' (first | apply v_seq | apply v_region | apply v_nil | apply v_skip | apply v_block | apply v_blk | (apply v_exit; (case hp => rfl)) | (apply v_take; (case hg => rfl)) | (apply v_pass; (case hg => rfl); (case hn => rfl); (case hd => rfl)) | (apply v_passN; (case hg => rfl); (case hn => rfl); (case hd => rfl)) | (apply v_pure; (case hop => first | (apply p_move <;> rfl) | (apply p_assign <;> rfl) | (apply p_convS <;> rfl) | (apply p_convB <;> rfl) | (apply p_conv64; (case hx => rfl); (case h => omega))); (case hd => rfl)) | (apply v_condT; (case hc => rfl)) | (apply v_condF; (case hc => rfl)) | (apply v_cond; (case hc => rfl); all_goals (intro h; (try simp only [reduceCtorEq, dec_true, dec_false, decide_eq_true_eq, decide_eq_false_iff_not, Bool.not_eq_true', Bool.not_eq_false', Option.isNone_iff_eq_none, beq_true, beq_false, beq_iff_eq, beq_eq_false_iff_ne, ne_eq, decide_eq_decide, Bool.not_eq_true, Bool.not_eq_false, Decidable.not_not] at h); first | done | (exfalso; omega) | (exfalso; exact h (by with_reducible assumption)) | (exfalso; revert h; rw [imp_false]; with_reducible assumption) | skip)) | (apply v_guardB; (case h1 => rfl); (case h2 => rfl); all_goals (intro h; (try simp only [reduceCtorEq, dec_true, dec_false, decide_eq_true_eq, decide_eq_false_iff_not, Bool.not_eq_true', Bool.not_eq_false', Option.isNone_iff_eq_none, beq_true, beq_false, beq_iff_eq, beq_eq_false_iff_ne, ne_eq, decide_eq_decide, Bool.not_eq_true, Bool.not_eq_false, Decidable.not_not] at h); first | done | (exfalso; omega) | (exfalso; exact h (by with_reducible assumption)) | (exfalso; revert h; rw [imp_false]; with_reducible assumption) | skip)) | (apply v_read; (case hop => exact r_convBS Tryd.underlying26 Tryd.underlying5 Tryd.underlying9 rfl h1); (case hd => rfl)) | fail)
  refine v_ret [(rb, _)] (outsA1 rfl rfl) (by repeat (first | exact List.Sublist.refl _ | exact List.nil_sublist _ | apply List.Sublist.cons_cons | apply List.Sublist.cons | exact List.sublist_append_left _ _ | apply List.sublist_append_of_sublist_right)) ?_
  exact ⟨rfl, a', no', rfl, hr'⟩
end Go.Proofs.YtfckggkmiegokaaDoor
