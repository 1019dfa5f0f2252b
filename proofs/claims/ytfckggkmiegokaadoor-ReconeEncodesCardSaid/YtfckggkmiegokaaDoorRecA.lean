/-
  recone (layer 16), the first part: ballots, and what is wrong with a record.
-/
import Derived.Test.YtfckggkmiegokaaDoorCmdC
set_option linter.unusedSimpArgs false
set_option linter.unusedVariables false
namespace Go.Proofs.YtfckggkmiegokaaDoor
open Go.Vx Go.ChangeShapes Go.WideShapes Go.ChangeAt Go.RowKit
/-! ### Equal structs -/
theorem eqBal {σ : Env} {ty t' : TypeId} {x y : Operand} {a b a' b' : Int} (hx : Env.ev σ x = some (.agg [.int .i64 a, .int .i64 b].toArray)) (hy : Env.ev σ y = some (.agg [.int .i64 a', .int .i64 b'].toArray)) : PureOp Tryd.prog (.binOp .eql 23 x y t') ty σ (.bool (dec (a = a' ∧ b = b'))) := by
  have := p_eqStruct (P := Tryd.prog) (ty := ty) (t := 23) (t' := t') hx hy (feq_int (k := .i64) (a := a) (b := a') (bytes := 8) (zero := .int .i64 0) (sz := 1) rfl rfl rfl (feq_int (k := .i64) (a := b) (b := b') (bytes := 8) (zero := .int .i64 0) (sz := 1) rfl rfl rfl feq_nil))
  have e : (dec (a = a') && (dec (b = b') && true)) = dec (a = a' ∧ b = b') := by simp only [dec_eq]; simp
  rwa [e] at this
theorem neBal {σ : Env} {ty t' : TypeId} {x y : Operand} {a b a' b' : Int} (hx : Env.ev σ x = some (.agg [.int .i64 a, .int .i64 b].toArray)) (hy : Env.ev σ y = some (.agg [.int .i64 a', .int .i64 b'].toArray)) : PureOp Tryd.prog (.binOp .neq 23 x y t') ty σ (.bool (!dec (a = a' ∧ b = b'))) := by
  have := p_neStruct (P := Tryd.prog) (ty := ty) (t := 23) (t' := t') hx hy (feq_int (k := .i64) (a := a) (b := a') (bytes := 8) (zero := .int .i64 0) (sz := 1) rfl rfl rfl (feq_int (k := .i64) (a := b) (b := b') (bytes := 8) (zero := .int .i64 0) (sz := 1) rfl rfl rfl feq_nil))
  have e : (dec (a = a') && (dec (b = b') && true)) = dec (a = a' ∧ b = b') := by simp only [dec_eq]; simp
  rwa [e] at this
noncomputable instance : DecidableEq Cm := fun a b => Classical.propDecidable (a = b)
theorem cm_feq (c c' : Cm) : FEq Tryd.prog 9999 c.cells c'.cells [⟨"Kind", 3, 0, false, "", "", 0⟩, ⟨"Client", 3, 1, false, "", "", 8⟩, ⟨"Seq", 3, 2, false, "", "", 16⟩, ⟨"Key", 9, 3, false, "", "", 24⟩, ⟨"Val", 9, 4, false, "", "", 40⟩, ⟨"Old", 9, 5, false, "", "", 56⟩, ⟨"Node", 3, 6, false, "", "", 72⟩] (dec (c.kind = c'.kind) && (dec (c.client = c'.client) && (dec (c.seq = c'.seq) && (dec (c.key = c'.key) && (dec (c.val = c'.val) && (dec (c.old = c'.old) && (dec (c.node = c'.node) && true))))))) :=
  feq_int (k := .i64) (bytes := 8) (zero := .int .i64 0) (sz := 1) (nm := "Kind") (ft := 3) (off := 0) (em := false) (tg := "") (pk := "") (bo := 0) rfl rfl rfl
    (feq_int (k := .i64) (bytes := 8) (zero := .int .i64 0) (sz := 1) (nm := "Client") (ft := 3) (off := 1) (em := false) (tg := "") (pk := "") (bo := 8) rfl rfl rfl
    (feq_int (k := .i64) (bytes := 8) (zero := .int .i64 0) (sz := 1) (nm := "Seq") (ft := 3) (off := 2) (em := false) (tg := "") (pk := "") (bo := 16) rfl rfl rfl
    (feq_str (bytes := 16) (zero := .string ByteArray.empty) (sz := 1) (nm := "Key") (ft := 9) (off := 3) (em := false) (tg := "") (pk := "") (bo := 24) rfl rfl rfl
    (feq_str (bytes := 16) (zero := .string ByteArray.empty) (sz := 1) (nm := "Val") (ft := 9) (off := 4) (em := false) (tg := "") (pk := "") (bo := 40) rfl rfl rfl
    (feq_str (bytes := 16) (zero := .string ByteArray.empty) (sz := 1) (nm := "Old") (ft := 9) (off := 5) (em := false) (tg := "") (pk := "") (bo := 56) rfl rfl rfl
    (feq_int (k := .i64) (bytes := 8) (zero := .int .i64 0) (sz := 1) (nm := "Node") (ft := 3) (off := 6) (em := false) (tg := "") (pk := "") (bo := 72) rfl rfl rfl feq_nil))))))
theorem cm_dec (c c' : Cm) : (dec (c.kind = c'.kind) && (dec (c.client = c'.client) && (dec (c.seq = c'.seq) && (dec (c.key = c'.key) && (dec (c.val = c'.val) && (dec (c.old = c'.old) && (dec (c.node = c'.node) && true))))))) = dec (c = c') := by
  obtain ⟨a1, a2, a3, a4, a5, a6, a7⟩ := c
  obtain ⟨b1, b2, b3, b4, b5, b6, b7⟩ := c'
  rw [Bool.eq_iff_iff]
  simp [dec_true]
theorem eqCm {σ : Env} {ty t' : TypeId} {x y : Operand} {c c' : Cm} (hx : Env.ev σ x = some (.agg c.cells.toArray)) (hy : Env.ev σ y = some (.agg c'.cells.toArray)) : PureOp Tryd.prog (.binOp .eql 25 x y t') ty σ (.bool (dec (c = c'))) := by
  have := p_eqStruct (P := Tryd.prog) (ty := ty) (t := 25) (t' := t') hx hy (cm_feq c c')
  rwa [cm_dec] at this
theorem neCm {σ : Env} {ty t' : TypeId} {x y : Operand} {c c' : Cm} (hx : Env.ev σ x = some (.agg c.cells.toArray)) (hy : Env.ev σ y = some (.agg c'.cells.toArray)) : PureOp Tryd.prog (.binOp .neq 25 x y t') ty σ (.bool (!dec (c = c'))) := by
  have := p_neStruct (P := Tryd.prog) (ty := ty) (t := 25) (t' := t') hx hy (cm_feq c c')
  rwa [cm_dec] at this
/-! ### Ballots -/
def mayP (r n : Int) : Prop := (r = 0 ∧ n = 0) ∨ (1 ≤ r ∧ r ≤ 4294967296 ∧ 1 ≤ n ∧ n ≤ 9)
instance (r n : Int) : Decidable (mayP r n) := by unfold mayP; infer_instance
theorem node_s (G : GH) (n : Int) : Con Tryd.prog 93 #[.int .i64 n] G [] (Just (.bool (decide (1 ≤ n ∧ n ≤ 9))) G) := by
  refine v_enter Tryd.func93 rfl Tryd.ntmps93 rfl (fun B => ?_)
  repeat' (first | apply v_seq | apply v_region | apply v_nil | apply v_skip | apply v_block | apply v_blk | (apply v_exit; (case hp => rfl)) | (apply v_take; (case hg => rfl)) | (apply v_pass; (case hg => rfl); (case hn => rfl); (case hd => rfl)) | (apply v_passN; (case hg => rfl); (case hn => rfl); (case hd => rfl)) | (apply v_pure; (case hop => first | (apply p_move <;> rfl) | (apply p_le <;> rfl) | (apply p_ge <;> rfl) | (apply p_assign <;> rfl) | (apply p_pickT <;> rfl) | (apply p_pickF <;> rfl) | (apply p_pickAnd <;> rfl) | (apply p_pickOr <;> rfl)); (case hd => rfl)) | (apply v_condT; (case hc => rfl)) | (apply v_condF; (case hc => rfl)) | (apply v_cond; (case hc => rfl); all_goals (intro h; (try simp only [reduceCtorEq, dec_true, dec_false, decide_eq_true_eq, decide_eq_false_iff_not, Bool.not_eq_true', Bool.not_eq_false', Option.isNone_iff_eq_none, beq_true, beq_false, beq_iff_eq, beq_eq_false_iff_ne, ne_eq, decide_eq_decide, Bool.not_eq_true, Bool.not_eq_false, Decidable.not_not] at h); first | done | (exfalso; omega) | (exfalso; exact h (by with_reducible assumption)) | (exfalso; revert h; rw [imp_false]; with_reducible assumption) | skip)) | (apply v_guardB; (case h1 => rfl); (case h2 => rfl); all_goals (intro h; (try simp only [reduceCtorEq, dec_true, dec_false, decide_eq_true_eq, decide_eq_false_iff_not, Bool.not_eq_true', Bool.not_eq_false', Option.isNone_iff_eq_none, beq_true, beq_false, beq_iff_eq, beq_eq_false_iff_ne, ne_eq, decide_eq_decide, Bool.not_eq_true, Bool.not_eq_false, Decidable.not_not] at h); first | done | (exfalso; omega) | (exfalso; exact h (by with_reducible assumption)) | (exfalso; revert h; rw [imp_false]; with_reducible assumption) | skip)) | fail)
  all_goals
    (refine v_ret [] (outsA1 rfl rfl) (by repeat (first | exact List.Sublist.refl _ | exact List.nil_sublist _ | apply List.Sublist.cons_cons | apply List.Sublist.cons | exact List.sublist_append_left _ _ | apply List.sublist_append_of_sublist_right)) ?_
     refine ⟨?_, rfl, rfl⟩
     first
       | (rw [decide_eq_false (by omega)])
       | (by_cases h5 : n ≤ 9
          · rw [dec_pos h5, decide_eq_true (by omega)]
          · rw [dec_neg h5, decide_eq_false (by omega)]))
theorem may_s (G : GH) (r n : Int) : Con Tryd.prog 64 #[.agg #[.int .i64 r, .int .i64 n]] G [] (Just (.bool (decide (mayP r n))) G) := by
  apply Con.just
  refine v_enter Tryd.func64 rfl Tryd.ntmps64 rfl (fun B => ?_)
  repeat' (first | (apply v_pure; (case hop => (apply eqBal; (case hx => rfl); (case hy => rfl))); (case hd => rfl)) | apply v_seq | apply v_region | apply v_nil | apply v_skip | apply v_block | apply v_blk | (apply v_exit; (case hp => rfl)) | (apply v_take; (case hg => rfl)) | (apply v_pass; (case hg => rfl); (case hn => rfl); (case hd => rfl)) | (apply v_passN; (case hg => rfl); (case hn => rfl); (case hd => rfl)) | (apply v_pure; (case hop => first | (apply p_move <;> rfl) | (apply p_eqs <;> rfl) | (apply p_eqBs <;> rfl) | (apply p_eq <;> rfl) | (apply p_le <;> rfl) | (apply p_ge <;> rfl) | (apply p_assign <;> rfl) | (apply p_pickT <;> rfl) | (apply p_pickF <;> rfl) | (apply p_fieldAddrB <;> rfl) | (apply p_fieldAddr <;> rfl) | (apply p_eqB <;> rfl) | (apply p_eqNil <;> rfl) | (apply p_build; (case hz => rfl); (case hv => (simp only [List.map_cons, List.map_nil]; repeat (first | with_reducible exact evs_nil | (apply evs_cons; (case h1 => rfl))))); (case hb => (apply bldL; repeat (first | exact bld_nil | (apply bld_cons; (case hpf => rfl); (case hc => rfl); (case hs => rfl); (case hl => rfl); (case ho => (first | ((repeat (first | with_reducible exact ov_nil | apply ov_cons | apply ov_there)); done) | rfl))))))) | (apply p_pickAnd <;> rfl) | (apply p_pickOr <;> rfl) | (apply p_eqS <;> rfl) | (apply p_eqNilSlice <;> rfl)); (case hd => rfl)) | (apply v_condT; (case hc => rfl)) | (apply v_condF; (case hc => rfl)) | (apply v_cond; (case hc => rfl); all_goals (intro h; (try simp only [reduceCtorEq, dec_true, dec_false, decide_eq_true_eq, decide_eq_false_iff_not, Bool.not_eq_true', Bool.not_eq_false', Option.isNone_iff_eq_none, beq_true, beq_false, beq_iff_eq, beq_eq_false_iff_ne, ne_eq, decide_eq_decide, Bool.not_eq_true, Bool.not_eq_false, Decidable.not_not] at h); first | done | (exfalso; omega) | (exfalso; exact h (by with_reducible assumption)) | (exfalso; revert h; rw [imp_false]; with_reducible assumption) | skip)) | (apply v_guardB; (case h1 => rfl); (case h2 => rfl); all_goals (intro h; (try simp only [reduceCtorEq, dec_true, dec_false, decide_eq_true_eq, decide_eq_false_iff_not, Bool.not_eq_true', Bool.not_eq_false', Option.isNone_iff_eq_none, beq_true, beq_false, beq_iff_eq, beq_eq_false_iff_ne, ne_eq, decide_eq_decide, Bool.not_eq_true, Bool.not_eq_false, Decidable.not_not] at h); first | done | (exfalso; omega) | (exfalso; exact h (by with_reducible assumption)) | (exfalso; revert h; rw [imp_false]; with_reducible assumption) | skip)) | (apply v_pure; (case hop => (apply neBal; (case hx => rfl); (case hy => rfl))); (case hd => rfl)) | (apply v_callJ (hs := node_s _ _); (case ha => rfl); (case hd => rfl)) | (apply v_read; (case hop => first | (apply r_loadNo; (case hx => rfl); (case h => (repeat (first | exact List.Mem.head _ | apply List.Mem.tail | apply List.mem_append_right))); (case hd => (repeat (first | with_reducible exact dt_nil | apply dt_here | apply dt_drop))); (case hn => rfl)) | (apply r_load1; rfl; (apply Cell.own; (case h => (repeat (first | exact List.Mem.head _ | apply List.Mem.tail | apply List.mem_append_right))); rfl)) | (apply r_loadN; rfl; (apply CellsAt.own; (case h => (repeat (first | exact List.Mem.head _ | apply List.Mem.tail | apply List.mem_append_right)))); rfl)); (case hd => rfl)) | (apply v_box; (case hx => rfl); (case hz => rfl); (case hd => rfl); intro b) | fail)
  all_goals
    (refine v_ret [] (outsA1 rfl rfl) (by repeat (first | exact List.Sublist.refl _ | exact List.nil_sublist _ | apply List.Sublist.cons_cons | apply List.Sublist.cons | exact List.sublist_append_left _ _ | apply List.sublist_append_of_sublist_right)) ?_
     refine ⟨?_, rfl⟩
     first
       | (rw [decide_eq_true (p := mayP r n) (by unfold mayP; omega)]; done)
       | (rw [decide_eq_false (p := mayP r n) (by unfold mayP; omega)]; done)
       | (rw [decide_eq_decide.2]; unfold mayP; omega)
       | (congr 1; rw [decide_eq_decide]; unfold mayP; omega))
theorem refMay_s (G : GH) (r n : Int) : Con Tryd.prog 38 #[.agg #[.int .i64 r, .int .i64 n]] G [] (Just (.bool (decide (mayP r n))) G) := by
  apply Con.just
  refine v_enter Tryd.func38 rfl Tryd.ntmps38 rfl (fun B => ?_)
  repeat' (first | apply v_seq | apply v_region | apply v_nil | apply v_skip | apply v_block | apply v_blk | (apply v_exit; (case hp => rfl)) | (apply v_take; (case hg => rfl)) | (apply v_pass; (case hg => rfl); (case hn => rfl); (case hd => rfl)) | (apply v_passN; (case hg => rfl); (case hn => rfl); (case hd => rfl)) | (apply v_pure; (case hop => first | (apply p_move <;> rfl) | (apply p_eqs <;> rfl) | (apply p_eqBs <;> rfl) | (apply p_eq <;> rfl) | (apply p_le <;> rfl) | (apply p_ge <;> rfl) | (apply p_assign <;> rfl) | (apply p_pickT <;> rfl) | (apply p_pickF <;> rfl) | (apply p_fieldAddrB <;> rfl) | (apply p_fieldAddr <;> rfl) | (apply p_eqB <;> rfl) | (apply p_eqNil <;> rfl) | (apply p_pickAnd <;> rfl) | (apply p_pickOr <;> rfl) | (apply p_eqS <;> rfl) | (apply p_eqNilSlice <;> rfl)); (case hd => rfl)) | (apply v_condT; (case hc => rfl)) | (apply v_condF; (case hc => rfl)) | (apply v_cond; (case hc => rfl); all_goals (intro h; (try simp only [reduceCtorEq, dec_true, dec_false, decide_eq_true_eq, decide_eq_false_iff_not, Bool.not_eq_true', Bool.not_eq_false', Option.isNone_iff_eq_none, beq_true, beq_false, beq_iff_eq, beq_eq_false_iff_ne, ne_eq, decide_eq_decide, Bool.not_eq_true, Bool.not_eq_false, Decidable.not_not] at h); first | done | (exfalso; omega) | (exfalso; exact h (by with_reducible assumption)) | (exfalso; revert h; rw [imp_false]; with_reducible assumption) | skip)) | (apply v_guardB; (case h1 => rfl); (case h2 => rfl); all_goals (intro h; (try simp only [reduceCtorEq, dec_true, dec_false, decide_eq_true_eq, decide_eq_false_iff_not, Bool.not_eq_true', Bool.not_eq_false', Option.isNone_iff_eq_none, beq_true, beq_false, beq_iff_eq, beq_eq_false_iff_ne, ne_eq, decide_eq_decide, Bool.not_eq_true, Bool.not_eq_false, Decidable.not_not] at h); first | done | (exfalso; omega) | (exfalso; exact h (by with_reducible assumption)) | (exfalso; revert h; rw [imp_false]; with_reducible assumption) | skip)) | (apply v_read; (case hop => first | (apply r_loadNo; (case hx => rfl); (case h => (repeat (first | exact List.Mem.head _ | apply List.Mem.tail | apply List.mem_append_right))); (case hd => (repeat (first | with_reducible exact dt_nil | apply dt_here | apply dt_drop))); (case hn => rfl)) | (apply r_load1; rfl; (apply Cell.own; (case h => (repeat (first | exact List.Mem.head _ | apply List.Mem.tail | apply List.mem_append_right))); rfl)) | (apply r_loadN; rfl; (apply CellsAt.own; (case h => (repeat (first | exact List.Mem.head _ | apply List.Mem.tail | apply List.mem_append_right)))); rfl)); (case hd => rfl)) | (apply v_box; (case hx => rfl); (case hz => rfl); (case hd => rfl); intro b) | fail)
  all_goals
    (refine v_ret [] (outsA1 rfl rfl) (by repeat (first | exact List.Sublist.refl _ | exact List.nil_sublist _ | apply List.Sublist.cons_cons | apply List.Sublist.cons | exact List.sublist_append_left _ _ | apply List.sublist_append_of_sublist_right)) ?_
     refine ⟨?_, rfl⟩
     first
       | (rw [decide_eq_true (p := mayP r n) (by unfold mayP; omega)]; done)
       | (rw [decide_eq_false (p := mayP r n) (by unfold mayP; omega)]; done)
       | (rw [dec_eq]; congr 1; rw [decide_eq_decide]; unfold mayP; omega))
end Go.Proofs.YtfckggkmiegokaaDoor
