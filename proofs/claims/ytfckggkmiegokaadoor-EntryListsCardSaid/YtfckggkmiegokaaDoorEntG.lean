/-
  entry (layer 12), the seventh part: the law EntryChecks.
-/
import Derived.Test.YtfckggkmiegokaaDoorEntF
import Derived.Test.YtfckggkmiegokaaDoorRecF
set_option linter.unusedSimpArgs false
set_option linter.unusedVariables false
namespace Go.Proofs.YtfckggkmiegokaaDoor
open Go.Vx Go.ChangeShapes Go.WideShapes Go.ChangeAt Go.RowKit
theorem el_ent {H : Type} {enc : TypeId × Value → H} {W : World} : Elem enc Tryd.prog W 36 EntR := by
  intro fuel cs x hf
  have h1 := el_flen (n := 10) Tryd.underlying36 (by kernel_rfl) hf
  obtain ⟨k, hk, wk⟩ := el_fld (i := 0) (sz := 1) (by kernel_rfl) (el_int Tryd.underlying3) hf
  have hb : Elem enc Tryd.prog W 23 (fun (p : Int × Int) cs => cs = [.int .i64 p.1, .int .i64 p.2] ∧ (Lit.int .i64 p.1).wf = true ∧ (Lit.int .i64 p.2).wf = true) := by
    intro fuel cs x hf
    have h1 := el_flen (n := 2) Tryd.underlying23 (by kernel_rfl) hf
    obtain ⟨a, ha, wa⟩ := el_fld (i := 0) (sz := 1) (by kernel_rfl) (el_int Tryd.underlying3) hf
    obtain ⟨b, hb, wb⟩ := el_fld (i := 1) (sz := 1) (by kernel_rfl) (el_int Tryd.underlying3) hf
    match cs, h1 with
    | [c0, c1], _ =>
      simp only [List.drop_succ_cons, List.drop_zero, List.take_succ_cons, List.take_zero, List.cons.injEq, and_true] at ha hb
      exact ⟨(a, b), by rw [ha, hb], wa, wb⟩
  obtain ⟨⟨r, n⟩, hr, wr, wn⟩ := el_fld (i := 1) (sz := 2) (by kernel_rfl) hb hf
  obtain ⟨c, hc, ho⟩ := el_fld (i := 2) (sz := 7) (by kernel_rfl) el_cm hf
  match cs, h1 with
  | [c0, c1, c2, c3, c4, c5, c6, c7, c8, c9], _ =>
    simp only [Cm.cells, List.drop_succ_cons, List.drop_zero, List.take_succ_cons, List.take_zero, List.cons.injEq, and_true] at hk hr hc
    obtain ⟨rfl, rfl⟩ := hr
    obtain ⟨rfl, rfl, rfl, rfl, rfl, rfl, rfl⟩ := hc
    subst hk
    exact ⟨⟨k, r, n, c⟩, rfl, wk, wr, wn, ho⟩
set_option maxRecDepth 100000 in
theorem arg_t34 {H : Type} {enc : TypeId × Value → H} {W : World} {base : Nat} {v : Value} {d : DataW H} {p : List MemPlace} (hv : Value.okWide Tryd.prog W .any base 34 v) (h : DataW.Trod enc Tryd.prog W 0 (fun _ => true) true 34 v d p) : ∃ l, Es (ghost W) v l :=
  arg_slice Tryd.underlying34 (by kernel_rfl) el_ent hv h
abbrev IsInt (v : Value) : Prop := ∃ a, v = .int .i64 a ∧ (Lit.int .i64 a).wf = true
set_option maxRecDepth 100000 in
theorem arg_t3 {H : Type} {enc : TypeId × Value → H} {W : World} {base : Nat} {v : Value} {d : DataW H} {p : List MemPlace} (hv : Value.okWide Tryd.prog W .any base 3 v) (h : DataW.Trod enc Tryd.prog W 0 (fun _ => true) true 3 v d p) : IsInt v := arg_int Tryd.underlying3 hv h
theorem entryChecks_law {W : World} {v0 v1 : Value} (hT : TabsG (ghost W)) (g0 : IsInt v0) (g1 : ∃ l, Es (ghost W) v1 l) : LawCon Tryd.prog 5 #[v0, v1] W := by
  obtain ⟨v, rfl, _⟩ := g0
  obtain ⟨l, hs⟩ := g1
  have ql := entLarge_s hs
  have qc := entCheck_s hT hs
  have qr := refEntCheck_s hs
  have qh := entHas_s v hs
  have qg := refEntHas_s v hs
  have qa := awake12_s hT
  clear hT hs
  generalize chkK l 0 = I at qc qr
  generalize decide (HasAll v l) = bh at qh qg
  unfold LawCon
  generalize ghost W = G at *
  refine v_enter Tryd.func5 rfl Tryd.ntmps5 rfl (fun B => ?_)
  repeat' (first | apply v_seq | apply v_region | apply v_nil | apply v_skip | apply v_block | apply v_blk | (apply v_exit; (case hp => rfl)) | (apply v_take; (case hg => rfl)) | (apply v_pass; (case hg => rfl); (case hn => rfl); (case hd => rfl)) | (apply v_passN; (case hg => rfl); (case hn => rfl); (case hd => rfl)) | (apply v_pure; (case hop => first | (apply p_move <;> rfl) | (apply p_eqs <;> rfl) | (apply p_eqBs <;> rfl) | (apply p_eq <;> rfl) | (apply p_assign <;> rfl) | (apply p_pickT <;> rfl) | (apply p_pickF <;> rfl) | (apply p_eqB <;> rfl) | (apply p_eqNil <;> rfl) | (apply p_pickAnd <;> rfl) | (apply p_pickOr <;> rfl) | (apply p_eqS <;> rfl) | (apply p_eqNilSlice <;> rfl)); (case hd => rfl)) | (apply v_condT; (case hc => rfl)) | (apply v_condF; (case hc => rfl)) | (apply v_cond; (case hc => rfl); all_goals (intro h; (try simp only [reduceCtorEq, dec_true, dec_false, decide_eq_true_eq, decide_eq_false_iff_not, Bool.not_eq_true', Bool.not_eq_false', Option.isNone_iff_eq_none, beq_true, beq_false, beq_iff_eq, beq_eq_false_iff_ne, ne_eq, decide_eq_decide, Bool.not_eq_true, Bool.not_eq_false, Decidable.not_not] at h); first | done | (exfalso; omega) | (exfalso; exact h (by with_reducible assumption)) | (exfalso; revert h; rw [imp_false]; with_reducible assumption) | skip)) | (apply v_guardB; (case h1 => rfl); (case h2 => rfl); all_goals (intro h; (try simp only [reduceCtorEq, dec_true, dec_false, decide_eq_true_eq, decide_eq_false_iff_not, Bool.not_eq_true', Bool.not_eq_false', Option.isNone_iff_eq_none, beq_true, beq_false, beq_iff_eq, beq_eq_false_iff_ne, ne_eq, decide_eq_decide, Bool.not_eq_true, Bool.not_eq_false, Decidable.not_not] at h); first | done | (exfalso; omega) | (exfalso; exact h (by with_reducible assumption)) | (exfalso; revert h; rw [imp_false]; with_reducible assumption) | skip)) | fail)
  refine v_call (μ1 := []) (μ2 := _) rfl ql (List.Perm.refl _) rfl ?_
  rintro r G' μ1 _ ⟨rfl, rfl, b, rfl⟩
  repeat' (first | apply v_seq | apply v_region | apply v_nil | apply v_skip | apply v_block | apply v_blk | (apply v_exit; (case hp => rfl)) | (apply v_take; (case hg => rfl)) | (apply v_pass; (case hg => rfl); (case hn => rfl); (case hd => rfl)) | (apply v_passN; (case hg => rfl); (case hn => rfl); (case hd => rfl)) | (apply v_pure; (case hop => first | (apply p_move <;> rfl) | (apply p_eqs <;> rfl) | (apply p_eqBs <;> rfl) | (apply p_eq <;> rfl) | (apply p_assign <;> rfl) | (apply p_pickT <;> rfl) | (apply p_pickF <;> rfl) | (apply p_eqB <;> rfl) | (apply p_eqNil <;> rfl) | (apply p_pickAnd <;> rfl) | (apply p_pickOr <;> rfl) | (apply p_eqS <;> rfl) | (apply p_eqNilSlice <;> rfl)); (case hd => rfl)) | (apply v_condT; (case hc => rfl)) | (apply v_condF; (case hc => rfl)) | (apply v_cond; (case hc => rfl); all_goals (intro h; (try simp only [reduceCtorEq, dec_true, dec_false, decide_eq_true_eq, decide_eq_false_iff_not, Bool.not_eq_true', Bool.not_eq_false', Option.isNone_iff_eq_none, beq_true, beq_false, beq_iff_eq, beq_eq_false_iff_ne, ne_eq, decide_eq_decide, Bool.not_eq_true, Bool.not_eq_false, Decidable.not_not] at h); first | done | (exfalso; omega) | (exfalso; exact h (by with_reducible assumption)) | (exfalso; revert h; rw [imp_false]; with_reducible assumption) | skip)) | (apply v_guardB; (case h1 => rfl); (case h2 => rfl); all_goals (intro h; (try simp only [reduceCtorEq, dec_true, dec_false, decide_eq_true_eq, decide_eq_false_iff_not, Bool.not_eq_true', Bool.not_eq_false', Option.isNone_iff_eq_none, beq_true, beq_false, beq_iff_eq, beq_eq_false_iff_ne, ne_eq, decide_eq_decide, Bool.not_eq_true, Bool.not_eq_false, Decidable.not_not] at h); first | done | (exfalso; omega) | (exfalso; exact h (by with_reducible assumption)) | (exfalso; revert h; rw [imp_false]; with_reducible assumption) | skip)) | (apply v_callJ (hs := qc); (case ha => rfl); (case hd => rfl)) | (apply v_callJ (hs := qr); (case ha => rfl); (case hd => rfl)) | (apply v_callJ (hs := qh); (case ha => rfl); (case hd => rfl)) | (apply v_callJ (hs := qg); (case ha => rfl); (case hd => rfl)) | (apply v_callJ (hs := qa); (case ha => rfl); (case hd => rfl)) | fail)
  · refine v_ret [] (outsA1 rfl rfl) (by repeat (first | exact List.Sublist.refl _ | exact List.nil_sublist _ | apply List.Sublist.cons_cons | apply List.Sublist.cons | exact List.sublist_append_left _ _ | apply List.sublist_append_of_sublist_right)) ?_
    rfl
  · refine v_ret [] (outsA1 rfl rfl) (by repeat (first | exact List.Sublist.refl _ | exact List.nil_sublist _ | apply List.Sublist.cons_cons | apply List.Sublist.cons | exact List.sublist_append_left _ _ | apply List.sublist_append_of_sublist_right)) ?_
    rfl
end Go.Proofs.YtfckggkmiegokaaDoor
