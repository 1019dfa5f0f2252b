/-
  recone (layer 16), the fourth part: equal records; large ones.
-/
import Derived.Test.YtnoiahlpmgbhfaaDoorM2
import Derived.Test.YtnoiahlpmgbhfaaDoorM1
import Derived.Lib.AppendZerosOnto
import Derived.Lib.Overlaps
import Derived.Laws.IdiomStrings
import Derived.Scope
set_option linter.unusedSimpArgs false
set_option linter.unusedVariables false
namespace Go.Proofs.YtnoiahlpmgbhfaaDoor
open Go.Vx Go.ChangeShapes Go.WideShapes Go.ChangeAt Go.RowKit
theorem bEqual_s {G : GH} {a b : List Int} {av bv : Value} (ha : Sl G 1 (IntR .u8) av a) (hb : Sl G 1 (IntR .u8) bv b) : Con Tryd.prog 68 #[av, bv] G [] (Just (.bool (decide (a = b))) G) := by
  obtain ⟨A, c, rfl, hlc, hcm, hsome, hel, _⟩ := ha.openInt
  obtain ⟨A', c', rfl, hlc', hcm', hsome', hel', _⟩ := hb.openInt
  simp only [maxLen] at hcm hcm'
  refine v_enter Tryd.func68 rfl Tryd.ntmps68 rfl (fun B => ?_)
  repeat' (first | apply v_seq | apply v_region | apply v_nil | apply v_skip | apply v_block | (apply v_pure; (case hop => first | (apply p_move <;> rfl) | (apply p_ne <;> rfl) | (apply p_assign <;> rfl) | (apply p_lenSlice <;> rfl)); (case hd => rfl)) | (apply v_cond; (case hc => rfl); all_goals (intro h; (try simp only [reduceCtorEq, dec_true, dec_false, decide_eq_true_eq, decide_eq_false_iff_not, Bool.not_eq_true', Bool.not_eq_false', Option.isNone_iff_eq_none, beq_true, beq_false, beq_iff_eq, beq_eq_false_iff_ne, ne_eq, decide_eq_decide, Bool.not_eq_true, Bool.not_eq_false, Decidable.not_not] at h); (skip))))
  · refine v_ret [] (outsA1 rfl rfl) (by repeat (exact List.Sublist.refl _)) ?_
    refine ⟨?_, rfl, rfl⟩
    rw [decide_eq_false]
    intro e
    subst e
    omega
  have hab : a.length = b.length := by omega
  refine v_loop [13, 12, 0, 1] (fun us G' μ' => G' = G ∧ μ' = [] ∧ ∃ k, k ≤ a.length ∧ us = [Value.int .i64 (k : Nat), .int .i64 a.length, .slice A a.length c, .slice A' b.length c'] ∧ ∀ i (h : i < a.length) (h' : i < b.length), i < k → a[i] = b[i]) (fun us => a.length - (headI us).toNat) rfl ⟨rfl, rfl, 0, by omega, rfl, by omega⟩ ?_
  rintro us G' μ' ⟨rfl, rfl, k, hk, rfl, hno⟩
  repeat' (first | apply v_seq | apply v_region | apply v_nil | apply v_skip | apply v_block | (apply v_exit; (case hp => rfl)) | (apply v_pure; (case hop => first | (apply p_move <;> rfl) | (apply p_lt <;> rfl) | (apply p_assign <;> rfl)); (case hd => rfl)) | (apply v_cond; (case hc => rfl); all_goals (intro h; (try simp only [reduceCtorEq, dec_true, dec_false, decide_eq_true_eq, decide_eq_false_iff_not, Bool.not_eq_true', Bool.not_eq_false', Option.isNone_iff_eq_none, beq_true, beq_false, beq_iff_eq, beq_eq_false_iff_ne, ne_eq, decide_eq_decide, Bool.not_eq_true, Bool.not_eq_false, Decidable.not_not] at h); (skip))))
  · refine d_start [] (by kernel_rfl) (by kernel_rfl) (by intro e he; (exact he)) ?_
    all_goals ((apply d_take 0; (case hi => rfl); (case hop => (apply PureOp.read; apply p_move <;> rfl)); (case hf => kernel_rfl); (case hr => kernel_rfl); (case hd => rfl)))
    all_goals ((apply d_take 1; (case hi => rfl); (case hop => (apply PureOp.read; apply p_move <;> rfl)); (case hf => kernel_rfl); (case hr => kernel_rfl); (case hd => rfl)))
    all_goals ((apply d_take 2; (case hi => rfl); (case hop => (apply PureOp.read; apply p_indexAddrS; (case hx => rfl); (case hi => rfl); (case h0 => omega); (case h => omega); (case hA => (apply_assumption; omega)))); (case hf => kernel_rfl); (case hr => kernel_rfl); (case hd => rfl)))
    all_goals ((apply d_take 3; (case hi => rfl); (case hop => ((apply r_load1; rfl; exact Cell.frozen (hel _ (by omega))))); (case hf => kernel_rfl); (case hr => kernel_rfl); (case hd => rfl)))
    all_goals ((apply d_take 4; (case hi => rfl); (case hop => (apply PureOp.read; apply p_move <;> rfl)); (case hf => kernel_rfl); (case hr => kernel_rfl); (case hd => rfl)))
    all_goals ((apply d_take 5; (case hi => rfl); (case hop => (apply PureOp.read; apply p_move <;> rfl)); (case hf => kernel_rfl); (case hr => kernel_rfl); (case hd => rfl)))
    all_goals ((apply d_take 6; (case hi => rfl); (case hop => (apply PureOp.read; apply p_indexAddrS; (case hx => rfl); (case hi => rfl); (case h0 => omega); (case h => omega); (case hA => (apply_assumption; omega)))); (case hf => kernel_rfl); (case hr => kernel_rfl); (case hd => rfl)))
    all_goals ((apply d_take 7; (case hi => rfl); (case hop => ((apply r_load1; rfl; exact Cell.frozen (hel' _ (by omega))))); (case hf => kernel_rfl); (case hr => kernel_rfl); (case hd => rfl)))
    all_goals ((apply d_take 8; (case hi => rfl); (case hop => (apply PureOp.read; apply p_ne <;> rfl)); (case hf => kernel_rfl); (case hr => kernel_rfl); (case hd => rfl)))
    all_goals (apply d_done; (case hr => kernel_rfl))
    repeat' (first | apply v_seq | apply v_region | apply v_nil | apply v_skip | apply v_blk | (apply v_pure; (case hop => first | (apply p_move <;> rfl) | (apply p_assign <;> rfl) | (apply p_add; (case hx => rfl); (case hy => rfl); (case h => omega))); (case hd => rfl)) | (apply v_cond; (case hc => rfl); all_goals (intro h; (try simp only [reduceCtorEq, dec_true, dec_false, decide_eq_true_eq, decide_eq_false_iff_not, Bool.not_eq_true', Bool.not_eq_false', Option.isNone_iff_eq_none, beq_true, beq_false, beq_iff_eq, beq_eq_false_iff_ne, ne_eq, decide_eq_decide, Bool.not_eq_true, Bool.not_eq_false, Decidable.not_not] at h); (skip))))
    · refine v_ret [] (outsA1 rfl rfl) (by repeat (exact List.Sublist.refl _)) ?_
      refine ⟨?_, rfl, rfl⟩
      rw [decide_eq_false]
      intro e
      subst e
      contradiction
    · refine v_again rfl ⟨rfl, rfl, k + 1, by omega, rfl, fun i h h' hi => ?_⟩ (by simp [headI]; omega)
      by_cases hik : i = k
      · subst hik; assumption
      · exact hno i h h' (by omega)
  · refine v_ret [] (outsA1 rfl rfl) (by repeat (exact List.Sublist.refl _)) ?_
    refine ⟨?_, rfl, rfl⟩
    rw [decide_eq_true]
    exact List.ext_getElem hab fun i h h' => hno i h h' (by omega)
theorem bSame_s {G : GH} {a b : List Int} {av bv : Value} (ha : Sl G 1 (IntR .u8) av a) (hb : Sl G 1 (IntR .u8) bv b) : Con Tryd.prog 15 #[av, bv] G [] (Just (.bool (decide (a = b))) G) := by
  obtain ⟨A, c, rfl, hlc, hcm, hsome, hel, _⟩ := ha.openInt
  obtain ⟨A', c', rfl, hlc', hcm', hsome', hel', _⟩ := hb.openInt
  simp only [maxLen] at hcm hcm'
  refine v_enter Tryd.func15 rfl Tryd.ntmps15 rfl (fun B => ?_)
  repeat' (first | apply v_seq | apply v_region | apply v_nil | apply v_skip | apply v_block | (apply v_pure; (case hop => first | (apply p_move <;> rfl) | (apply p_ne <;> rfl) | (apply p_assign <;> rfl) | (apply p_lenSlice <;> rfl)); (case hd => rfl)) | (apply v_cond; (case hc => rfl); all_goals (intro h; (try simp only [reduceCtorEq, dec_true, dec_false, decide_eq_true_eq, decide_eq_false_iff_not, Bool.not_eq_true', Bool.not_eq_false', Option.isNone_iff_eq_none, beq_true, beq_false, beq_iff_eq, beq_eq_false_iff_ne, ne_eq, decide_eq_decide, Bool.not_eq_true, Bool.not_eq_false, Decidable.not_not] at h); (skip))))
  · refine v_ret [] (outsA1 rfl rfl) (by repeat (exact List.Sublist.refl _)) ?_
    refine ⟨?_, rfl, rfl⟩
    rw [decide_eq_false]
    intro e
    subst e
    omega
  have hab : a.length = b.length := by omega
  refine v_loop [5, 0, 1] (fun us G' μ' => G' = G ∧ μ' = [] ∧ ∃ k, k ≤ a.length ∧ us = [Value.int .i64 (k : Nat), .slice A a.length c, .slice A' b.length c'] ∧ ∀ i (h : i < a.length) (h' : i < b.length), i < k → a[i] = b[i]) (fun us => a.length - (headI us).toNat) rfl ⟨rfl, rfl, 0, by omega, rfl, by omega⟩ ?_
  rintro us G' μ' ⟨rfl, rfl, k, hk, rfl, hno⟩
  repeat' (first | apply v_seq | apply v_region | apply v_nil | apply v_skip | apply v_block | (apply v_exit; (case hp => rfl)) | (apply v_pure; (case hop => first | (apply p_move <;> rfl) | (apply p_lt <;> rfl) | (apply p_assign <;> rfl) | (apply p_lenSlice <;> rfl)); (case hd => rfl)) | (apply v_cond; (case hc => rfl); all_goals (intro h; (try simp only [reduceCtorEq, dec_true, dec_false, decide_eq_true_eq, decide_eq_false_iff_not, Bool.not_eq_true', Bool.not_eq_false', Option.isNone_iff_eq_none, beq_true, beq_false, beq_iff_eq, beq_eq_false_iff_ne, ne_eq, decide_eq_decide, Bool.not_eq_true, Bool.not_eq_false, Decidable.not_not] at h); (skip))))
  · refine d_start [] (by kernel_rfl) (by kernel_rfl) (by intro e he; (exact he)) ?_
    all_goals ((apply d_take 0; (case hi => rfl); (case hop => (apply PureOp.read; apply p_move <;> rfl)); (case hf => kernel_rfl); (case hr => kernel_rfl); (case hd => rfl)))
    all_goals ((apply d_take 1; (case hi => rfl); (case hop => (apply PureOp.read; apply p_move <;> rfl)); (case hf => kernel_rfl); (case hr => kernel_rfl); (case hd => rfl)))
    all_goals ((apply d_take 2; (case hi => rfl); (case hop => (apply PureOp.read; apply p_indexAddrS; (case hx => rfl); (case hi => rfl); (case h0 => omega); (case h => omega); (case hA => (apply_assumption; omega)))); (case hf => kernel_rfl); (case hr => kernel_rfl); (case hd => rfl)))
    all_goals ((apply d_take 3; (case hi => rfl); (case hop => ((apply r_load1; rfl; exact Cell.frozen (hel _ (by omega))))); (case hf => kernel_rfl); (case hr => kernel_rfl); (case hd => rfl)))
    all_goals ((apply d_take 4; (case hi => rfl); (case hop => (apply PureOp.read; apply p_move <;> rfl)); (case hf => kernel_rfl); (case hr => kernel_rfl); (case hd => rfl)))
    all_goals ((apply d_take 5; (case hi => rfl); (case hop => (apply PureOp.read; apply p_move <;> rfl)); (case hf => kernel_rfl); (case hr => kernel_rfl); (case hd => rfl)))
    all_goals ((apply d_take 6; (case hi => rfl); (case hop => (apply PureOp.read; apply p_indexAddrS; (case hx => rfl); (case hi => rfl); (case h0 => omega); (case h => omega); (case hA => (apply_assumption; omega)))); (case hf => kernel_rfl); (case hr => kernel_rfl); (case hd => rfl)))
    all_goals ((apply d_take 7; (case hi => rfl); (case hop => ((apply r_load1; rfl; exact Cell.frozen (hel' _ (by omega))))); (case hf => kernel_rfl); (case hr => kernel_rfl); (case hd => rfl)))
    all_goals ((apply d_take 8; (case hi => rfl); (case hop => (apply PureOp.read; apply p_ne <;> rfl)); (case hf => kernel_rfl); (case hr => kernel_rfl); (case hd => rfl)))
    all_goals (apply d_done; (case hr => kernel_rfl))
    repeat' (first | apply v_seq | apply v_region | apply v_nil | apply v_skip | apply v_blk | (apply v_pure; (case hop => first | (apply p_move <;> rfl) | (apply p_assign <;> rfl) | (apply p_add; (case hx => rfl); (case hy => rfl); (case h => omega))); (case hd => rfl)) | (apply v_cond; (case hc => rfl); all_goals (intro h; (try simp only [reduceCtorEq, dec_true, dec_false, decide_eq_true_eq, decide_eq_false_iff_not, Bool.not_eq_true', Bool.not_eq_false', Option.isNone_iff_eq_none, beq_true, beq_false, beq_iff_eq, beq_eq_false_iff_ne, ne_eq, decide_eq_decide, Bool.not_eq_true, Bool.not_eq_false, Decidable.not_not] at h); (skip))))
    · refine v_ret [] (outsA1 rfl rfl) (by repeat (exact List.Sublist.refl _)) ?_
      refine ⟨?_, rfl, rfl⟩
      rw [decide_eq_false]
      intro e
      subst e
      contradiction
    · refine v_again rfl ⟨rfl, rfl, k + 1, by omega, rfl, fun i h h' hi => ?_⟩ (by simp [headI]; omega)
      by_cases hik : i = k
      · subst hik; assumption
      · exact hno i h h' (by omega)
  · refine v_ret [] (outsA1 rfl rfl) (by repeat (exact List.Sublist.refl _)) ?_
    refine ⟨?_, rfl, rfl⟩
    rw [decide_eq_true]
    exact List.ext_getElem hab fun i h h' => hno i h h' (by omega)
/-- A record. -/
structure Rc where
  kind : Int
  round : Int
  node : Int
  index : Int
  cmd : Cm
  image : List Int
noncomputable instance : DecidableEq Rc := fun a b => Classical.propDecidable (a = b)
/-- Record x lies in cells; its image is frozen. -/
def RcV (G : GH) (x : Rc) (v : Value) : Prop := ∃ iv, v = .agg (recL x.kind x.round x.node x.index x.cmd iv).toArray ∧ Sl G 1 (IntR .u8) iv x.image
theorem RcV.le {G G' : GH} (h : GH.le G G') {x : Rc} {v : Value} (hx : RcV G x v) : RcV G' x v := let ⟨iv, h1, h2⟩ := hx; ⟨iv, h1, h2.mono h⟩
theorem refRecSame_s {G : GH} {x y : Rc} {xv yv : Value} (hx : RcV G x xv) (hy : RcV G y yv) : Con Tryd.prog 13 #[xv, yv] G [] (Just (.bool (decide (x = y))) G) := by
  obtain ⟨k, r, n, i, c, im⟩ := x
  obtain ⟨k', r', n', i', c', im'⟩ := y
  obtain ⟨iv, rfl, hi⟩ := hx
  obtain ⟨iv', rfl, hi'⟩ := hy
  simp only at hi hi'
  have qe := bSame_s hi hi'
  apply Con.just
  refine v_enter Tryd.func13 rfl Tryd.ntmps13 rfl (fun B => ?_)
  repeat' (first | (apply v_pure; (case hop => (apply eqBal; (case hx => rfl); (case hy => rfl))); (case hd => rfl)) | (apply v_pure; (case hop => (apply eqCm (c := c) (c' := c'); (case hx => rfl); (case hy => rfl))); (case hd => rfl)) | apply v_seq | apply v_region | apply v_nil | (apply v_take; (case hg => rfl)) | (apply v_pass; (case hg => rfl); (case hn => rfl); (case hd => rfl)) | (apply v_pure; (case hop => first | (apply p_move <;> rfl) | (apply p_eq <;> rfl) | (apply p_assign <;> rfl) | (apply p_pickT <;> rfl) | (apply p_pickF <;> rfl) | (apply p_fieldAddrB <;> rfl)); (case hd => rfl)) | (apply v_guardB; (case h1 => rfl); (case h2 => rfl); all_goals (intro h; (try simp only [reduceCtorEq, dec_true, dec_false, decide_eq_true_eq, decide_eq_false_iff_not, Bool.not_eq_true', Bool.not_eq_false', Option.isNone_iff_eq_none, beq_true, beq_false, beq_iff_eq, beq_eq_false_iff_ne, ne_eq, decide_eq_decide, Bool.not_eq_true, Bool.not_eq_false, Decidable.not_not] at h); (skip))) | (apply v_box (zs := recL k r n i c iv); (case hx => rfl); (case hz => rfl); (case hd => rfl); intro b1) | (apply v_box (zs := recL k' r' n' i' c' iv'); (case hx => rfl); (case hz => rfl); (case hd => rfl); intro b2) | (apply v_callJ (hs := qe); (case ha => rfl); (case hd => rfl)) | (apply v_read; (case hop => first | (apply r_loadNo; (case hx => rfl); (case h => (repeat (first | exact List.Mem.head _ | apply List.Mem.tail))); (case hd => (repeat (first | with_reducible exact dt_nil | apply dt_here))); (case hn => rfl)) | (apply r_load1; rfl; (apply Cell.own; (case h => (repeat (first | exact List.Mem.head _ | apply List.Mem.tail))); rfl))); (case hd => rfl)))
  all_goals
    (refine v_ret [] (outsA1 rfl rfl) (by repeat (exact List.nil_sublist _)) ?_
     refine ⟨?_, rfl⟩
     clear qe
     congr 1
     rw [Bool.eq_iff_iff]
     first | (simp [*]; done) | (simp [*]; grind))
def Rc.large (x : Rc) : Prop := 200 < x.cmd.key.size ∨ 200 < x.cmd.val.size ∨ 200 < x.cmd.old.size ∨ (300 < x.image.length ∧ x.image.length < 32760) ∨ 32780 < x.image.length
instance (x : Rc) : Decidable x.large := by unfold Rc.large; infer_instance
theorem recLarge_s {G : GH} {x : Rc} {xv : Value} (hx : RcV G x xv) (hc : x.cmd.ok) : Con Tryd.prog 28 #[xv] G [] (Just (.bool (decide x.large)) G) := by
  obtain ⟨k, r, n, i, c, im⟩ := x
  obtain ⟨iv, rfl, hi⟩ := hx
  obtain ⟨A, cp, rfl, hlc, hcm, _⟩ := hi.openInt
  obtain ⟨_, _, _, hk, hv, ho, _⟩ := hc
  simp only [maxLen] at hk hv ho hcm
  simp only at hlc hi
  apply Con.just
  refine v_enter Tryd.func28 rfl Tryd.ntmps28 rfl (fun B => ?_)
  repeat' (first | apply v_seq | apply v_region | apply v_nil | (apply v_take; (case hg => rfl)) | (apply v_pass; (case hg => rfl); (case hn => rfl); (case hd => rfl)) | (apply v_passN; (case hg => rfl); (case hn => rfl); (case hd => rfl)) | (apply v_pure; (case hop => first | (apply p_move <;> rfl) | (apply p_lt <;> rfl) | (apply p_gt <;> rfl) | (apply p_assign <;> rfl) | (apply p_pickT <;> rfl) | (apply p_pickF <;> rfl) | (apply p_lenSlice <;> rfl) | (apply p_fieldAddrB <;> rfl) | (apply p_lenString <;> rfl)); (case hd => rfl)) | (apply v_guardB; (case h1 => rfl); (case h2 => rfl); all_goals (intro h; (try simp only [reduceCtorEq, dec_true, dec_false, decide_eq_true_eq, decide_eq_false_iff_not, Bool.not_eq_true', Bool.not_eq_false', Option.isNone_iff_eq_none, beq_true, beq_false, beq_iff_eq, beq_eq_false_iff_ne, ne_eq, decide_eq_decide, Bool.not_eq_true, Bool.not_eq_false, Decidable.not_not] at h); (skip))) | (apply v_box (zs := recL k r n i c (.slice A im.length cp)); (case hx => rfl); (case hz => rfl); (case hd => rfl); intro b1) | (apply v_read; (case hop => (apply r_load1; rfl; (apply Cell.own; (case h => (repeat (exact List.Mem.head _))); rfl))); (case hd => rfl)))
  all_goals
    (refine v_ret [] (outsA1 rfl rfl) (by repeat (exact List.nil_sublist _)) ?_
     refine ⟨?_, rfl⟩
     (try simp only [dec_eq])
     congr 1
     (try rw [decide_eq_decide])
     (try symm)
     first
       | (rw [decide_eq_true_iff]; unfold Rc.large; simp only; omega)
       | (rw [decide_eq_false_iff_not]; unfold Rc.large; simp only; omega)
       | (unfold Rc.large; simp only; omega))
end Go.Proofs.YtnoiahlpmgbhfaaDoor
/-
  pack (layer 4) and varint (layer 1), the first part: numbers are put behind bytes.
-/
set_option linter.unusedSimpArgs false
set_option linter.unusedVariables false
namespace Go.Proofs.YtnoiahlpmgbhfaaDoor
open Go.Vx Go.ChangeShapes Go.WideShapes Go.ChangeAt Go.RowKit
/-! ### Bytes -/
theorem p_convU8 {σ : Env} {ty : TypeId} {x : Operand} {k k'' : IntKind} {a : Int} {t u : TypeId} [Ty Tryd.prog t (.int k'')] [Ty Tryd.prog u (.int .u8)] (hx : Env.ev σ x = some (.int k a)) : PureOp Tryd.prog (.convert t u x) ty σ (.int .u8 (a % 256)) := by
  have := p_conv (P := Tryd.prog) (ty := ty) (t := t) (u := u) hx
  rwa [IntKind.wrap_u8] at this
theorem or128 : ∀ a : Nat, a < 256 → (BitVec.ofNat 8 a ||| 128#8).toNat = a % 128 + 128 := by decide +kernel
theorem p_or128 {σ : Env} {ty : TypeId} {x y : Operand} {a : Int} {t t' : TypeId} (hx : Env.ev σ x = some (.int .u8 (a % 256))) (hy : Env.ev σ y = some (.int .u8 128)) : PureOp Tryd.prog (.binOp .or t x y t') ty σ (.int .u8 (a % 128 + 128)) := by
  have := p_or (P := Tryd.prog) (ty := ty) (t := t) (t' := t') hx hy
  have e : IntKind.u8.wrap (BitVec.ofInt IntKind.u8.bits (a % 256) ||| BitVec.ofInt IntKind.u8.bits 128).toNat = a % 128 + 128 := by
    obtain ⟨m, hm⟩ := Int.eq_ofNat_of_zero_le (Int.emod_nonneg a (show (256 : Int) ≠ 0 by decide))
    have hlt : m < 256 := by omega
    have h1 := or128 m hlt
    rw [hm]
    have e1 : BitVec.ofInt IntKind.u8.bits (m : Int) = BitVec.ofNat 8 m := by
      show BitVec.ofInt 8 (m : Int) = _
      exact BitVec.ofInt_natCast 8 m
    have e2 : BitVec.ofInt IntKind.u8.bits 128 = 128#8 := rfl
    rw [e1, e2]
    show IntKind.u8.wrap (((BitVec.ofNat 8 m ||| 128#8).toNat : Nat) : Int) = _
    rw [h1, IntKind.wrap_u8]
    omega
  rwa [e] at this
attribute [local semireducible] PureOp in
theorem p_shr7 {σ : Env} {ty : TypeId} {x y : Operand} {k' : IntKind} {a : Int} {t t' : TypeId} (hx : Env.ev σ x = some (.int .i64 a)) (hy : Env.ev σ y = some (.int k' 7)) : PureOp Tryd.prog (.binOp .shr t x y t') ty σ (.int .i64 (a / 128)) := by
  intro dst pos af g ρ hρ w
  have := shift_shr .i64 k' a 7 (by decide) (by decide)
  simp [execOp, hρ _ _ hx, hρ _ _ hy, eqGuard, binOp_shr, this]
/-- The bytes of a number. -/
def vb : Nat → Int → List Int
  | 0, n => [n]
  | f + 1, n => if n < 128 then [n] else (n % 128 + 128) :: vb f (n / 128)
theorem vb_succ (f : Nat) (n : Int) : vb (f + 1) n = if n < 128 then [n] else (n % 128 + 128) :: vb f (n / 128) := rfl
def vbytes (n : Int) : List Int := vb 10 (max n 0)
theorem vb_wf : ∀ (f : Nat) (n : Int), 0 ≤ n → n < 128 ^ (f + 1) → ∀ x ∈ vb f n, 0 ≤ x ∧ x ≤ 255
  | 0, n, h0, h, x, hx => by simp [vb] at hx; subst hx; omega
  | f + 1, n, h0, h, x, hx => by
    unfold vb at hx
    split at hx
    · simp at hx; omega
    · simp only [List.mem_cons] at hx
      rcases hx with rfl | hx
      · omega
      · refine vb_wf f (n / 128) (by omega) ?_ x hx
        have : (128 : Int) ^ (f + 1 + 1) = 128 * 128 ^ (f + 1) := by rw [Int.pow_succ, Int.mul_comm]
        omega
theorem vb_len : ∀ (f : Nat) (n : Int), (vb f n).length ≤ f + 1 ∧ 1 ≤ (vb f n).length
  | 0, n => by simp [vb]
  | f + 1, n => by
    unfold vb
    split
    · simp
    · have := vb_len f (n / 128)
      simp only [List.length_cons]; omega
theorem p128 (n : Int) (hn : n ≤ 9223372036854775807) : max n 0 < 128 ^ (10 + 1) := by
  have : (128 : Int) ^ (10 + 1) = 151115727451828646838272 := by decide
  omega
theorem vbytes_wf {n : Int} (h : n ≤ 9223372036854775807) : ∀ x ∈ vbytes n, (Lit.int .u8 x).wf = true := fun x hx => by
  have := vb_wf 10 (max n 0) (by omega) (p128 n h) x hx
  exact WalkArith.wf_u8 (by omega)
theorem vbytes_len (n : Int) : (vbytes n).length ≤ 11 ∧ 1 ≤ (vbytes n).length := vb_len 10 _
theorem bclone_s {G : GH} {l : List Int} {sv : Value} (hs : Sl G 1 (IntR .u8) sv l) (hl : l.length ≤ 1048576) : Con Tryd.prog 77 #[sv] G [] (fun r G' μ' => G' = G ∧ Grow 5 1 r l.length (l.map (.int .u8 ·)) μ') := by
  obtain ⟨A, c, rfl, hlc, hcm, hsome, hel, _⟩ := hs.openInt
  simp only [maxLen] at hcm
  refine v_enter Tryd.func77 rfl Tryd.ntmps77 rfl (fun B => ?_)
  repeat' (first | apply v_seq | apply v_region | apply v_nil | apply v_skip | (apply v_pure; (case hop => first | (apply p_move <;> rfl) | (apply p_assign <;> rfl) | (apply p_eqNilSlice <;> rfl)); (case hd => rfl)) | (apply v_cond; (case hc => rfl); all_goals (intro h; (try simp only [reduceCtorEq, dec_true, dec_false, decide_eq_true_eq, decide_eq_false_iff_not, Bool.not_eq_true', Bool.not_eq_false', Option.isNone_iff_eq_none, beq_true, beq_false, beq_iff_eq, beq_eq_false_iff_ne, ne_eq, decide_eq_decide, Bool.not_eq_true, Bool.not_eq_false, Decidable.not_not] at h); first | skip)) | (apply v_buildSlice; (case hz => rfl); (case hi => rfl); (case hv => (simp only [List.map_cons, List.map_nil]; repeat (first | with_reducible exact evs_nil | fail))); (case hp => (first | with_reducible exact pk_nil | fail)); (case hb => rfl); (case hd => rfl); intro b) | fail)
  · refine v_ret [] (outsA1 rfl rfl) (by repeat (first | exact List.Sublist.refl _ | fail)) ?_
    have : l = [] := by
      cases l with
      | nil => rfl
      | cons a l => have := hsome (by simp); simp_all
    subst this
    exact ⟨rfl, Grow.nil _ _⟩
  · refine v_append (e := 5) (sz := 1) (zero := .int .u8 0) rfl (by omega) rfl rfl Grow.empty (List.Perm.refl _) (Src.ints hs) (allOne_ints l) (by omega) (by simp only [maxLen]; omega) rfl ?_
    intro v' ν' hg
    repeat' (first | apply v_nil | (apply v_pure; (case hop => first | (apply p_assign <;> rfl) | fail); (case hd => rfl)) | fail)
    refine v_ret ν' (outsA1 rfl rfl) (by simp) ?_
    rw [Nat.zero_add, List.nil_append] at hg
    exact ⟨rfl, hg⟩
theorem pushLen {l xs : List Int} {y : Int} : (l ++ (xs ++ [y])).length = (l ++ xs).length + 1 := by simp; omega
theorem pushMap {l xs : List Int} {y : Int} : (l ++ (xs ++ [y])).map (Value.int .u8 ·) = (l ++ xs).map (Value.int .u8 ·) ++ [.int .u8 y] := by simp
theorem put_s {G : GH} {l : List Int} {sv : Value} (n : Int) (hs : Sl G 1 (IntR .u8) sv l) (hl : l.length ≤ 1048000) (hn : n ≤ 9223372036854775807) : Con Tryd.prog 121 #[sv, .int .i64 n] G [] (fun r G' μ' => G' = G ∧ Grow 5 1 r (l ++ vbytes n).length ((l ++ vbytes n).map (.int .u8 ·)) μ') := by
  refine v_enter Tryd.func121 rfl Tryd.ntmps121 rfl (fun B => ?_)
  repeat' (first | apply v_seq | apply v_region | apply v_nil | (apply v_pure; (case hop => first | (apply p_move <;> rfl) | (apply p_assign <;> rfl) | fail); (case hd => rfl)) | fail)
  refine v_call (μ1 := []) (μ2 := _) rfl (bclone_s hs (by omega)) (List.Perm.refl _) rfl ?_
  rintro r G' μ1 - ⟨rfl, hg⟩
  repeat' (first | apply v_seq | apply v_region | apply v_nil | apply v_block | (apply v_pure; (case hop => first | (apply p_move <;> rfl) | (apply p_assign <;> rfl) | (apply p_max <;> rfl) | fail); (case hd => rfl)) | fail)
  refine v_loopI (ι := Nat × Int × List Int) [5, 1] (fun x us G2 μ' => G2 = G' ∧ ∃ v, us = [v, Value.int .i64 x.2.1] ∧ Grow 5 1 v (l ++ x.2.2).length ((l ++ x.2.2).map (.int .u8 ·)) μ' ∧ 0 ≤ x.2.1 ∧ x.2.1 < 128 ^ (x.1 + 1) ∧ x.2.1 ≤ 9223372036854775807 ∧ x.1 ≤ 10 ∧ x.2.2.length ≤ 10 - x.1 ∧ vbytes n = x.2.2 ++ vb x.1 x.2.1) (fun x => x.1) rfl (10, max n 0, []) ⟨rfl, _, rfl, by simpa using hg, by simp only; omega, p128 n hn, by simp only; omega, by simp, by simp, rfl⟩ ?_
  rintro ⟨f, m, xs⟩ us G2 μ' ⟨rfl, v, rfl, hg2, h0, hlt, hm, hf, hx, he⟩
  simp only at hg2 h0 hlt hm hf hx he
  repeat' (first | (apply v_pure; (case hop => (apply p_convU8; (case hx => rfl))); (case hd => rfl)) | apply v_seq | apply v_region | apply v_nil | apply v_skip | apply v_block | (apply v_exit; (case hp => rfl)) | (apply v_pure; (case hop => first | (apply p_move <;> rfl) | (apply p_ge <;> rfl) | fail); (case hd => rfl)) | (apply v_cond; (case hc => rfl); all_goals (intro h; (try simp only [reduceCtorEq, dec_true, dec_false, decide_eq_true_eq, decide_eq_false_iff_not, Bool.not_eq_true', Bool.not_eq_false', Option.isNone_iff_eq_none, beq_true, beq_false, beq_iff_eq, beq_eq_false_iff_ne, ne_eq, decide_eq_decide, Bool.not_eq_true, Bool.not_eq_false, Decidable.not_not] at h); first | skip)) | (apply v_pure; (case hop => (apply p_or128; (case hx => rfl); (case hy => rfl))); (case hd => rfl)) | (apply v_buildSlice; (case hz => rfl); (case hi => rfl); (case hv => (simp only [List.map_cons, List.map_nil]; repeat (first | with_reducible exact evs_nil | (apply evs_cons; (case h1 => rfl))))); (case hp => (first | (apply pk_cons; (case hc => rfl); (case hs => rfl); (case h => (first | with_reducible exact pk_nil | fail)); (case he => (first | ((repeat (first | with_reducible exact ap_nil | apply ap_cons)); done) | fail))) | fail)); (case hb => rfl); (case hd => rfl); intro b) | fail)
  · obtain ⟨f', rfl⟩ : ∃ f', f = f' + 1 := by
      cases f with
      | zero => simp at hlt; omega
      | succ f' => exact ⟨f', rfl⟩
    have hvb : vb (f' + 1) m = (m % 128 + 128) :: vb f' (m / 128) := by rw [vb_succ, if_neg (by omega)]
    refine v_append (e := 5) (sz := 1) (zero := .int .u8 0) (m' := 1) (us := [.int .u8 (m % 128 + 128)]) rfl (by omega) rfl rfl hg2 (PickA.perm (by repeat (first | exact PickA.last | apply PickA.cons | fail))) (Src.own (List.Mem.head _) rfl) rfl (by simp; omega) (by simp [maxLen]; omega) rfl ?_
    intro v' ν' hg'
    repeat' (first | apply v_region | apply v_nil | apply v_blk | (apply v_pure; (case hop => first | (apply p_move <;> rfl) | (apply p_assign <;> rfl) | fail); (case hd => rfl)) | (apply v_pure; (case hop => (apply p_shr7; (case hx => rfl); (case hy => rfl))); (case hd => rfl)) | fail)
    refine v_only ν' (by repeat (first | exact PickA.here _ | fail)) ?_
    refine v_againI (f', m / 128, xs ++ [m % 128 + 128]) rfl ⟨rfl, v', rfl, ?_, by simp only; omega, ?_, by simp only; omega, by simp only; omega, by simp; omega, ?_⟩ (by simp)
    · simp only
      rw [pushLen, pushMap]
      exact hg'
    · simp only
      have : (128 : Int) ^ (f' + 1 + 1) = 128 * 128 ^ (f' + 1) := by rw [Int.pow_succ, Int.mul_comm]
      omega
    · simp only
      rw [he, hvb]; simp
  · have hvb : vb f m = [m] := by
      cases f with
      | zero => rfl
      | succ f => rw [vb_succ, if_pos (by omega)]
    refine v_append (e := 5) (sz := 1) (zero := .int .u8 0) (m' := 1) (us := [.int .u8 (m % 256)]) rfl (by omega) rfl rfl hg2 (PickA.perm (by repeat (first | exact PickA.last | apply PickA.cons | fail))) (Src.own (List.Mem.head _) rfl) rfl (by simp; omega) (by simp [maxLen]; omega) rfl ?_
    intro v' ν' hg'
    repeat' (first | apply v_nil | (apply v_pure; (case hop => first | (apply p_assign <;> rfl) | fail); (case hd => rfl)) | fail)
    refine v_ret ν' (outsA1 rfl rfl) (by repeat (first | exact List.sublist_append_left _ _ | fail)) ?_
    refine ⟨rfl, ?_⟩
    rw [he, hvb, pushLen, pushMap]
    rw [show m % 256 = m by omega] at hg'
    exact hg'
/-! ### A writer: a block of one cell, whose slice is frozen -/
theorem wnumber_s {G : GH} {l : List Int} {sv : Value} (wb : Nat) (n : Int) (hs : Sl G 1 (IntR .u8) sv l) (hl : l.length ≤ 1048000) (hn : n ≤ 9223372036854775807) :
    Con Tryd.prog 75 #[.pointer (some ⟨wb, 0, none⟩), .int .i64 n] G [(wb, .cells [sv].toArray 66 (0, 0))]
      (fun r G' μ' => ∃ v', μ' = [(wb, .cells [v'].toArray 66 (0, 0))] ∧ Sl G' 1 (IntR .u8) v' (l ++ vbytes n)) := by
  obtain ⟨A, c, rfl, hlc, hcm, hsome, hel, hwf⟩ := hs.openInt
  refine v_enter Tryd.func75 rfl Tryd.ntmps75 rfl (fun B => ?_)
  repeat' (first | apply v_seq | apply v_region | apply v_nil | (apply v_pure; (case hop => first | (apply p_move <;> rfl) | (apply p_fieldAddrB <;> rfl) | (apply p_nilCheck <;> rfl) | (apply p_neNil <;> rfl) | fail); (case hd => rfl)) | (apply v_condT; (case hc => rfl)) | (apply v_read; (case hop => first | (apply r_load1; rfl; (apply Cell.own; (case h => (repeat (first | exact List.Mem.head _ | fail))); rfl)) | fail); (case hd => rfl)) | fail)
  refine v_call (μ1 := []) (μ2 := _) rfl (put_s n hs hl hn) (List.Perm.refl _) rfl ?_
  rintro r G' μ1 - ⟨rfl, hg⟩
  obtain ⟨A1, c1, rfl, _⟩ := hg.shape
  refine v_frz μ1 (by repeat (first | exact PickA.here _ | fail)) ?_
  intro G1 hle hG
  repeat' (first | apply v_nil | (apply v_pure; (case hop => first | (apply p_fieldAddrB <;> rfl) | (apply p_nilCheck <;> rfl) | fail); (case hd => rfl)) | (apply v_store; (case hp => rfl); (case hx => rfl); (case hc => rfl); (case hsz => rfl); (case h1 => rfl); (case hb => (repeat (first | exact List.Mem.head _ | fail))); (case hfit => first | exact Nat.le_of_ble_eq_true rfl | fail); (case hov => (first | ((repeat (first | with_reducible exact ov_nil | apply ov_cons | fail)); done) | fail)); (case hu => repeat (first | exact Upd.here _ _ | fail))) | fail)
  refine v_end [(wb, _)] (outsA0 rfl) (by repeat (first | exact List.Sublist.refl _ | fail)) ?_
  refine ⟨_, rfl, hg.ints hG fun x hx => ?_⟩
  rcases List.mem_append.1 hx with hx | hx
  · exact hwf x hx
  · exact vbytes_wf hn x hx
theorem wbytes_s {G : GH} {l : List Int} {sv : Value} (wb : Nat) (hs : Sl G 1 (IntR .u8) sv l) (hl : l.length ≤ 1048000) :
    Con Tryd.prog 41 #[.pointer (some ⟨wb, 0, none⟩)] G [(wb, .cells [sv].toArray 66 (0, 0))]
      (fun r G' μ' => μ' = [] ∧ Sl G' 1 (IntR .u8) r l) := by
  obtain ⟨A, c, rfl, hlc, hcm, hsome, hel, hwf⟩ := hs.openInt
  refine v_enter Tryd.func41 rfl Tryd.ntmps41 rfl (fun B => ?_)
  repeat' (first | apply v_seq | apply v_region | apply v_nil | apply v_skip | (apply v_pure; (case hop => first | (apply p_move <;> rfl) | (apply p_assign <;> rfl) | (apply p_fieldAddrB <;> rfl) | (apply p_nilCheck <;> rfl) | (apply p_eqNil <;> rfl) | fail); (case hd => rfl)) | (apply v_condF; (case hc => rfl)) | (apply v_read; (case hop => first | (apply r_load1; rfl; (apply Cell.own; (case h => (repeat (first | exact List.Mem.head _ | fail))); rfl)) | fail); (case hd => rfl)) | fail)
  refine v_call (μ1 := []) (μ2 := _) rfl (bclone_s hs (by omega)) (List.Perm.refl _) rfl ?_
  rintro r G' μ1 - ⟨rfl, hg⟩
  refine v_frz μ1 (by repeat (first | exact PickA.here _ | fail)) ?_
  intro G1 hle hG
  repeat' (first | apply v_nil | (apply v_pure; (case hop => first | (apply p_assign <;> rfl) | fail); (case hd => rfl)) | fail)
  refine v_ret [] (outsA1 rfl rfl) (by repeat (first | exact List.nil_sublist _ | fail)) ?_
  exact ⟨rfl, hg.ints hG hwf⟩
end Go.Proofs.YtnoiahlpmgbhfaaDoor
/-
  recone (layer 16), the fifth part: what V1 has; the example.
-/
set_option linter.unusedSimpArgs false
set_option linter.unusedVariables false
namespace Go.Proofs.YtnoiahlpmgbhfaaDoor
open Go.Vx Go.ChangeShapes Go.WideShapes Go.ChangeAt Go.RowKit
def HasV (v k : Int) : Prop := (v = 1 ∧ 1 ≤ k ∧ k ≤ 8 ∧ k ≠ 5) ∨ (v = 2 ∧ 1 ≤ k ∧ k ≤ 8)
instance (v k : Int) : Decidable (HasV v k) := by unfold HasV; infer_instance
theorem vmay_s (G : GH) (v : Int) : Con Tryd.prog 72 #[.int .i64 v] G [] (Just (.bool (decide (v = 1 ∨ v = 2))) G) := by
  refine v_enter Tryd.func72 rfl Tryd.ntmps72 rfl (fun B => ?_)
  repeat' (first | apply v_seq | apply v_region | apply v_nil | apply v_skip | apply v_block | apply v_blk | (apply v_exit; (case hp => rfl)) | (apply v_pure; (case hop => first | (apply p_move <;> rfl) | (apply p_eq <;> rfl) | (apply p_assign <;> rfl)); (case hd => rfl)) | (apply v_cond; (case hc => rfl); all_goals (intro h; (try simp only [reduceCtorEq, dec_true, dec_false, decide_eq_true_eq, decide_eq_false_iff_not, Bool.not_eq_true', Bool.not_eq_false', Option.isNone_iff_eq_none, beq_true, beq_false, beq_iff_eq, beq_eq_false_iff_ne, ne_eq, decide_eq_decide, Bool.not_eq_true, Bool.not_eq_false, Decidable.not_not] at h); (skip))))
  all_goals
    (refine v_ret [] (outsA1 rfl rfl) (by repeat (exact List.Sublist.refl _)) ?_
     refine ⟨?_, rfl, rfl⟩
     (simp [dec_eq, *]; done))
theorem vhas_s (G : GH) (v k : Int) : Con Tryd.prog 96 #[.int .i64 v, .int .i64 k] G [] (Just (.bool (decide (HasV v k))) G) := by
  refine v_enter Tryd.func96 rfl Tryd.ntmps96 rfl (fun B => ?_)
  repeat' (first | apply v_seq | apply v_region | apply v_nil | apply v_skip | apply v_block | apply v_blk | (apply v_pure; (case hop => first | (apply p_move <;> rfl) | (apply p_eq <;> rfl) | (apply p_ge <;> rfl) | (apply p_assign <;> rfl) | (apply p_not <;> rfl)); (case hd => rfl)) | (apply v_cond; (case hc => rfl); all_goals (intro h; (try simp only [reduceCtorEq, dec_true, dec_false, decide_eq_true_eq, decide_eq_false_iff_not, Bool.not_eq_true', Bool.not_eq_false', Option.isNone_iff_eq_none, beq_true, beq_false, beq_iff_eq, beq_eq_false_iff_ne, ne_eq, decide_eq_decide, Bool.not_eq_true, Bool.not_eq_false, Decidable.not_not] at h); first | (exfalso; omega) | skip)) | (apply v_callJ (hs := vmay_s _ _); (case ha => rfl); (case hd => rfl)))
  all_goals
    (refine v_ret [] (outsA1 rfl rfl) (by repeat (exact List.Sublist.refl _)) ?_
     refine ⟨?_, rfl, rfl⟩
     (try simp only [dec_eq])
     congr 1
     (try symm)
     first
       | (rw [decide_eq_true_iff]; unfold HasV; omega)
       | (rw [decide_eq_false_iff_not]; unfold HasV; omega)
       | (rw [decide_eq_decide]; unfold HasV; omega))
theorem refVHas_s (G : GH) (v k : Int) : Con Tryd.prog 58 #[.int .i64 v, .int .i64 k] G [] (Just (.bool (decide (HasV v k))) G) := by
  refine v_enter Tryd.func58 rfl Tryd.ntmps58 rfl (fun B => ?_)
  repeat' (first | apply v_seq | apply v_region | apply v_nil | apply v_skip | (apply v_take; (case hg => rfl)) | (apply v_pass; (case hg => rfl); (case hn => rfl); (case hd => rfl)) | (apply v_passN; (case hg => rfl); (case hn => rfl); (case hd => rfl)) | (apply v_pure; (case hop => first | (apply p_move <;> rfl) | (apply p_eq <;> rfl) | (apply p_lt <;> rfl) | (apply p_gt <;> rfl) | (apply p_ne <;> rfl) | (apply p_assign <;> rfl) | (apply p_pickT <;> rfl) | (apply p_pickF <;> rfl)); (case hd => rfl)) | (apply v_condT; (case hc => rfl)) | (apply v_cond; (case hc => rfl); all_goals (intro h; (try simp only [reduceCtorEq, dec_true, dec_false, decide_eq_true_eq, decide_eq_false_iff_not, Bool.not_eq_true', Bool.not_eq_false', Option.isNone_iff_eq_none, beq_true, beq_false, beq_iff_eq, beq_eq_false_iff_ne, ne_eq, decide_eq_decide, Bool.not_eq_true, Bool.not_eq_false, Decidable.not_not] at h); (skip))) | (apply v_guardB; (case h1 => rfl); (case h2 => rfl); all_goals (intro h; (try simp only [reduceCtorEq, dec_true, dec_false, decide_eq_true_eq, decide_eq_false_iff_not, Bool.not_eq_true', Bool.not_eq_false', Option.isNone_iff_eq_none, beq_true, beq_false, beq_iff_eq, beq_eq_false_iff_ne, ne_eq, decide_eq_decide, Bool.not_eq_true, Bool.not_eq_false, Decidable.not_not] at h); (skip))))
  all_goals
    (refine v_ret [] (outsA1 rfl rfl) (by repeat (exact List.Sublist.refl _)) ?_
     refine ⟨?_, rfl, rfl⟩
     first
       | (rw [decide_eq_true (p := HasV v k) (by unfold HasV; omega)]; done)
       | (rw [decide_eq_false (p := HasV v k) (by unfold HasV; omega)]; done)
       | (simp only [dec_eq]; congr 1; rw [Bool.eq_iff_iff]; simp [HasV]; omega)
       | (simp only [dec_eq]; congr 1; rw [Bool.eq_iff_iff]; simp [HasV]; grind))
noncomputable def olderI (x : Rc) : Int := if recI x.kind x.round x.node x.index x.cmd x.image.length ≠ 0 then recI x.kind x.round x.node x.index x.cmd x.image.length else if (x.kind = 2 ∨ x.kind = 3) ∧ ¬ HasV 1 x.cmd.kind then 8 else 0
theorem older_s {G : GH} (hT : TabsG G) {x : Rc} {xv : Value} (hx : RcV G x xv) (hc : x.cmd.ok) : Con Tryd.prog 56 #[xv] G [] (Just (.int .i64 (olderI x)) G) := by
  obtain ⟨k, r, n, i, c, im⟩ := x
  obtain ⟨iv, rfl, hi⟩ := hx
  obtain ⟨A, cp, rfl, hlc, hcm, _⟩ := hi.openInt
  simp only [maxLen] at hcm
  simp only at hc hlc hi
  have q := recCheck_s hT k r n i c hc A im.length cp (by omega)
  have qf := rfields_s G k
  have qv := vhas_s G 1 c.kind
  apply Con.just
  refine v_enter Tryd.func56 rfl Tryd.ntmps56 rfl (fun B => ?_)
  by_cases hk : 1 ≤ k ∧ k ≤ 4
  · rw [decide_eq_true hk] at qf
    obtain rfl | rfl | rfl | rfl : k = 1 ∨ k = 2 ∨ k = 3 ∨ k = 4 := by omega
    all_goals
      repeat' (first | apply v_seq | apply v_region | apply v_nil | apply v_skip | (apply v_take; (case hg => rfl)) | (apply v_pass; (case hg => rfl); (case hn => rfl); (case hd => rfl)) | (apply v_pure; (case hop => first | (apply p_move <;> rfl) | (apply p_ne <;> rfl) | (apply p_assign <;> rfl) | (apply p_pickT <;> rfl) | (apply p_pickF <;> rfl) | (apply p_not <;> rfl) | (apply p_fieldAddrB <;> rfl) | (apply p_extract0 <;> rfl) | (apply p_extract1 <;> rfl)); (case hd => rfl)) | (apply v_condF; (case hc => rfl)) | (apply v_cond; (case hc => rfl); all_goals (intro h; (try simp only [reduceCtorEq, dec_true, dec_false, decide_eq_true_eq, decide_eq_false_iff_not, Bool.not_eq_true', Bool.not_eq_false', Option.isNone_iff_eq_none, beq_true, beq_false, beq_iff_eq, beq_eq_false_iff_ne, ne_eq, decide_eq_decide, Bool.not_eq_true, Bool.not_eq_false, Decidable.not_not] at h); (skip))) | (apply v_box (zs := recL _ r n i c (.slice A im.length cp)); (case hx => rfl); (case hz => rfl); (case hd => rfl); intro b1) | (apply v_callJ (hs := q); (case ha => rfl); (case hd => rfl)) | (apply v_callJ (hs := qf); (case ha => rfl); (case hd => rfl)) | (apply v_callJ (hs := qv); (case ha => rfl); (case hd => rfl)) | (apply v_read; (case hop => first | (apply r_loadNo; (case hx => rfl); (case h => (repeat (exact List.Mem.head _))); (case hd => (repeat (first | with_reducible exact dt_nil | apply dt_here))); (case hn => rfl)) | (apply r_load1; rfl; (apply Cell.own; (case h => (repeat (first | exact List.Mem.head _ | apply List.Mem.tail))); rfl))); (case hd => rfl)) | (apply v_alloc; (case hz => rfl); (case hd => rfl); intro b) | (apply v_store; (case hp => rfl); (case hx => rfl); (case hc => rfl); (case hsz => rfl); (case h1 => rfl); (case hb => (repeat (exact List.Mem.head _))); (case hfit => (exact Nat.le_of_ble_eq_true rfl)); (case hov => (((repeat (first | with_reducible exact ov_nil | apply ov_cons)); done))); (case hu => repeat (exact Upd.here _ _))))
    all_goals
      (refine v_ret [] (outsA1 rfl rfl) (by repeat (exact List.nil_sublist _)) ?_
       refine ⟨?_, rfl⟩
       clear q qf qv
       simp [olderI, *])
  · have e : hasL k = [.bool false, .bool false, .bool false, .bool false] := by unfold hasL; rw [if_neg (by omega), if_neg (by omega), if_neg (by omega), if_neg (by omega)]
    rw [decide_eq_false hk, e] at qf
    have e2 : recI k r n i c im.length = 5 := by rw [recI, if_pos (by omega)]
    rw [e2] at q
    repeat' (first | apply v_seq | apply v_region | apply v_nil | (apply v_pure; (case hop => first | (apply p_move <;> rfl) | (apply p_ne <;> rfl) | (apply p_assign <;> rfl)); (case hd => rfl)) | (apply v_cond; (case hc => rfl); all_goals (intro h; (try simp only [reduceCtorEq, dec_true, dec_false, decide_eq_true_eq, decide_eq_false_iff_not, Bool.not_eq_true', Bool.not_eq_false', Option.isNone_iff_eq_none, beq_true, beq_false, beq_iff_eq, beq_eq_false_iff_ne, ne_eq, decide_eq_decide, Bool.not_eq_true, Bool.not_eq_false, Decidable.not_not] at h); first | (exfalso; omega) | skip)) | (apply v_box (zs := recL k r n i c (.slice A im.length cp)); (case hx => rfl); (case hz => rfl); (case hd => rfl); intro b1) | (apply v_callJ (hs := q); (case ha => rfl); (case hd => rfl)) | (apply v_read; (case hop => (apply r_loadNo; (case hx => rfl); (case h => (repeat (exact List.Mem.head _))); (case hd => (repeat (first | with_reducible exact dt_nil | apply dt_here))); (case hn => rfl))); (case hd => rfl)))
    refine v_ret [] (outsA1 rfl rfl) (by repeat (exact List.nil_sublist _)) ?_
    refine ⟨?_, rfl⟩
    simp [olderI, e2]
end Go.Proofs.YtnoiahlpmgbhfaaDoor
/-
  entry (layer 12), the second part: what may be, by the reference; too large; kinds that a version has.
-/
set_option linter.unusedSimpArgs false
set_option linter.unusedVariables false
namespace Go.Proofs.YtnoiahlpmgbhfaaDoor
open Go.Vx Go.ChangeShapes Go.WideShapes Go.ChangeAt Go.RowKit
theorem cmCell {G : GH} {A : Option Addr} {l : List Ent} (hcc : ∀ i (h : i < l.length), CellsG G (((adr A).add (i * 10)).add 3) l[i].cmd.cells) (i : Nat) (h : i < l.length) (j : Nat) (v : Value) (hv : l[i].cmd.cells[j]? = some v) : GH.cell? G ((((adr A).add (i * 10)).add 3).add j) = some v := (hcc i h).cell hv
theorem oneI_six {x : Ent} (h : x.index < 1 ∨ 4294967296 < x.index ∨ ¬ mayP x.round x.node) : oneI x = 6 := by rw [oneI, if_pos h]
theorem oneI_cmd {x : Ent} (h : ¬ x.index < 1) (h1 : ¬ 4294967296 < x.index) (h2 : mayP x.round x.node) : oneI x = cmdI x.cmd := by
  rw [oneI, if_neg]
  rintro (h' | h' | h')
  · exact h h'
  · exact h1 h'
  · exact h' h2
theorem chkK_bad {l : List Ent} {k : Nat} (hlt : k < l.length) {z : Int} (h : oneI l[k] = z) (hz : z ≠ 0) : chkK l k = z := by rw [chkK, dif_pos hlt, if_pos (by rw [h]; exact hz), h]
theorem chkK_low {l : List Ent} {k : Nat} (hlt : k < l.length) (h : oneI l[k] = 0) (h0 : 0 < k) (h1 : l[k].index ≤ (l[k - 1]'(by omega)).index) : chkK l k = 12 := by rw [chkK, dif_pos hlt, if_neg (by simpa using h), dif_pos h0, if_pos h1]
theorem chkK_next {l : List Ent} {k : Nat} (hlt : k < l.length) (h : oneI l[k] = 0) (h1 : ∀ h0 : 0 < k, ¬ l[k].index ≤ (l[k - 1]'(by omega)).index) : chkK l k = chkK l (k + 1) := by
  rw [chkK, dif_pos hlt, if_neg (by simpa using h)]
  by_cases h0 : 0 < k
  · rw [dif_pos h0, if_neg (h1 h0)]
  · rw [dif_neg h0]
theorem chkK_end {l : List Ent} {k : Nat} (h : ¬ k < l.length) : chkK l k = 0 := by rw [chkK, dif_neg h]
theorem refEntCheck_s {G : GH} {l : List Ent} {sv : Value} (hs : Es G sv l) : Con Tryd.prog 36 #[sv] G [] (Just (.int .i64 (chkK l 0)) G) := by
  obtain ⟨A, c, rfl, hlc, hcm, hsome, hcp, hcb, hcc, hok⟩ := esOpen hs
  simp only [maxLen] at hcm
  apply Con.just
  refine v_enter Tryd.func36 rfl Tryd.ntmps36 rfl (fun B => ?_)
  repeat' (first | apply v_seq | apply v_region | apply v_nil | apply v_block | (apply v_pure; (case hop => first | (apply p_assign <;> rfl) | fail); (case hd => rfl)) | fail)
  refine v_loop [3, 0] (fun us G' μ' => G' = G ∧ μ' = [] ∧ ∃ k, k ≤ l.length ∧ us = [Value.int .i64 (k : Nat), .slice A l.length c] ∧ chkK l 0 = chkK l k) (fun us => l.length - (headI us).toNat) rfl ⟨rfl, rfl, 0, by omega, rfl, rfl⟩ ?_
  rintro us G' μ' ⟨rfl, rfl, k, hk, rfl, hno⟩
  have e1 : ((k : Nat) : Int).toNat = k := by omega
  have e2 : (((k : Nat) : Int) - 1).toNat = k - 1 := by omega
  have qc := fun (h : k < l.length) => Con.just (refCmdCheck_s (G := G') l[k].cmd (hok k h).2.2.2)
  have qm := fun (h : k < l.length) => refMay_s G' l[k].round l[k].node
  repeat' (first | apply v_seq | apply v_region | apply v_nil | apply v_skip | apply v_block | (apply v_exit; (case hp => rfl)) | (apply v_take; (case hg => rfl)) | (apply v_pass; (case hg => rfl); (case hn => rfl); (case hd => rfl)) | (apply v_pure; (case hop => first | (apply p_move <;> rfl) | (apply p_lt <;> rfl) | (apply p_gt <;> rfl) | (apply p_ne <;> rfl) | (apply p_assign <;> rfl) | (apply p_pickT <;> rfl) | (apply p_pickF <;> rfl) | (apply p_not <;> rfl) | (apply p_lenSlice <;> rfl) | (apply p_fieldAddr <;> rfl) | (apply p_indexAddrS; (case hx => rfl); (case hi => rfl); (case h0 => omega); (case h => omega); (case hA => first | (apply_assumption; omega))) | fail); (case hd => rfl)) | (apply v_condT; (case hc => rfl)) | (apply v_cond; (case hc => rfl); all_goals (intro h; (try simp only [reduceCtorEq, dec_true, dec_false, decide_eq_true_eq, decide_eq_false_iff_not, Bool.not_eq_true', Bool.not_eq_false', Option.isNone_iff_eq_none, beq_true, beq_false, beq_iff_eq, beq_eq_false_iff_ne, ne_eq, decide_eq_decide, Bool.not_eq_true, Bool.not_eq_false, Decidable.not_not] at h); first | skip)) | (apply v_guardB; (case h1 => rfl); (case h2 => rfl); all_goals (intro h; (try simp only [reduceCtorEq, dec_true, dec_false, decide_eq_true_eq, decide_eq_false_iff_not, Bool.not_eq_true', Bool.not_eq_false', Option.isNone_iff_eq_none, beq_true, beq_false, beq_iff_eq, beq_eq_false_iff_ne, ne_eq, decide_eq_decide, Bool.not_eq_true, Bool.not_eq_false, Decidable.not_not] at h); first | skip)) | (apply v_read; (case hop => first | (apply r_load1; rfl; exact Cell.frozen (esCell hcp _ (by omega))) | (apply r_loadN; rfl; exact CellsAt.frozen (hcb _ (by omega)); rfl) | (apply r_loadN; rfl; exact CellsAt.frozen (hcc _ (by omega)); rfl) | fail); (case hd => rfl)) | (apply v_callJ (hs := qm (by omega)); (case ha => rfl); (case hd => rfl)) | (apply v_callJ (hs := qc (by omega)); (case ha => rfl); (case hd => rfl)) | fail)
  · refine v_ret [] (outsA1 rfl rfl) (by repeat (first | exact List.Sublist.refl _ | fail)) ?_
    refine ⟨?_, rfl⟩
    rw [hno, chkK_bad (by omega) (oneI_six (.inl (by assumption))) (by decide)]
  · refine v_ret [] (outsA1 rfl rfl) (by repeat (first | exact List.Sublist.refl _ | fail)) ?_
    refine ⟨?_, rfl⟩
    rw [hno, chkK_bad (by omega) (oneI_six (.inr (.inl (by assumption)))) (by decide)]
  · refine v_ret [] (outsA1 rfl rfl) (by repeat (first | exact List.Sublist.refl _ | fail)) ?_
    refine ⟨?_, rfl⟩
    rw [hno, chkK_bad (by omega) (oneI_six (.inr (.inr (by assumption)))) (by decide)]
  · refine v_ret [] (outsA1 rfl rfl) (by repeat (first | exact List.Sublist.refl _ | fail)) ?_
    refine ⟨?_, rfl⟩
    rw [hno, chkK_bad (by omega) (oneI_cmd (by assumption) (by assumption) (by assumption)) (by assumption)]
  · have hlt : k < l.length := by omega
    have q0 : oneI l[k] = 0 := by rw [oneI_cmd (by assumption) (by assumption) (by assumption)]; assumption
    clear qc qm
    refine d_start [] (by kernel_rfl) (by kernel_rfl) (by intro e he; first | exact he | fail) ?_
    all_goals (first | (apply d_take 0; (case hi => rfl); (case hop => first | (apply PureOp.read; apply p_move <;> rfl)); (case hf => kernel_rfl); (case hr => kernel_rfl); (case hd => rfl)) | fail)
    all_goals (first | (apply d_take 1; (case hi => rfl); (case hop => first | (apply PureOp.read; apply p_gt <;> rfl)); (case hf => kernel_rfl); (case hr => kernel_rfl); (case hd => rfl)) | fail)
    all_goals (first | (apply d_take 2; (case hi => rfl); (case hop => first | (apply PureOp.read; apply p_move <;> rfl)); (case hf => kernel_rfl); (case hr => kernel_rfl); (case hd => rfl)) | fail)
    all_goals (try (apply d_guardB 3; (case hi => rfl); (case hgd => rfl); (case h1 => rfl); (case h2 => first | rfl); all_goals (intro h; (try simp only [reduceCtorEq, dec_true, dec_false, decide_eq_true_eq, decide_eq_false_iff_not, Bool.not_eq_true', Bool.not_eq_false', Option.isNone_iff_eq_none, beq_true, beq_false, beq_iff_eq, beq_eq_false_iff_ne, ne_eq, decide_eq_decide, Bool.not_eq_true, Bool.not_eq_false, Decidable.not_not] at h); first | skip)))
    all_goals (first | (apply d_pass 3; (case hi => rfl); (case hg => rfl); (case hn => rfl); (case hf => kernel_rfl); (case hr => kernel_rfl); (case hd => rfl)) | (apply d_takeG 3; (case hi => rfl); (case hg => rfl); (case hop => first | (apply PureOp.read; apply p_move <;> rfl)); (case hf => kernel_rfl); (case hr => kernel_rfl); (case hd => rfl)) | fail)
    all_goals (try (apply d_guardB 4; (case hi => rfl); (case hgd => rfl); (case h1 => rfl); (case h2 => first | rfl); all_goals (intro h; (try simp only [reduceCtorEq, dec_true, dec_false, decide_eq_true_eq, decide_eq_false_iff_not, Bool.not_eq_true', Bool.not_eq_false', Option.isNone_iff_eq_none, beq_true, beq_false, beq_iff_eq, beq_eq_false_iff_ne, ne_eq, decide_eq_decide, Bool.not_eq_true, Bool.not_eq_false, Decidable.not_not] at h); first | done | skip)))
    all_goals (first | (apply d_pass 4; (case hi => rfl); (case hg => rfl); (case hn => rfl); (case hf => kernel_rfl); (case hr => kernel_rfl); (case hd => rfl)) | (apply d_takeG 4; (case hi => rfl); (case hg => rfl); (case hop => first | (apply PureOp.read; apply p_move <;> rfl)); (case hf => kernel_rfl); (case hr => kernel_rfl); (case hd => rfl)) | fail)
    all_goals (try (apply d_guardB 5; (case hi => rfl); (case hgd => rfl); (case h1 => rfl); (case h2 => first | rfl); all_goals (intro h; (try simp only [reduceCtorEq, dec_true, dec_false, decide_eq_true_eq, decide_eq_false_iff_not, Bool.not_eq_true', Bool.not_eq_false', Option.isNone_iff_eq_none, beq_true, beq_false, beq_iff_eq, beq_eq_false_iff_ne, ne_eq, decide_eq_decide, Bool.not_eq_true, Bool.not_eq_false, Decidable.not_not] at h); first | done | skip)))
    all_goals (first | (apply d_pass 5; (case hi => rfl); (case hg => rfl); (case hn => rfl); (case hf => kernel_rfl); (case hr => kernel_rfl); (case hd => rfl)) | (apply d_takeG 5; (case hi => rfl); (case hg => rfl); (case hop => first | (apply PureOp.read; apply p_indexAddrS; (case hx => rfl); (case hi => rfl); (case h0 => omega); (case h => omega); (case hA => first | (apply_assumption; omega)))); (case hf => kernel_rfl); (case hr => kernel_rfl); (case hd => rfl)) | fail)
    all_goals (try (apply d_guardB 6; (case hi => rfl); (case hgd => rfl); (case h1 => rfl); (case h2 => first | rfl); all_goals (intro h; (try simp only [reduceCtorEq, dec_true, dec_false, decide_eq_true_eq, decide_eq_false_iff_not, Bool.not_eq_true', Bool.not_eq_false', Option.isNone_iff_eq_none, beq_true, beq_false, beq_iff_eq, beq_eq_false_iff_ne, ne_eq, decide_eq_decide, Bool.not_eq_true, Bool.not_eq_false, Decidable.not_not] at h); first | done | skip)))
    all_goals (first | (apply d_pass 6; (case hi => rfl); (case hg => rfl); (case hn => rfl); (case hf => kernel_rfl); (case hr => kernel_rfl); (case hd => rfl)) | (apply d_takeG 6; (case hi => rfl); (case hg => rfl); (case hop => first | (apply PureOp.read; apply p_fieldAddr <;> rfl)); (case hf => kernel_rfl); (case hr => kernel_rfl); (case hd => rfl)) | fail)
    all_goals (try (apply d_guardB 7; (case hi => rfl); (case hgd => rfl); (case h1 => rfl); (case h2 => first | rfl); all_goals (intro h; (try simp only [reduceCtorEq, dec_true, dec_false, decide_eq_true_eq, decide_eq_false_iff_not, Bool.not_eq_true', Bool.not_eq_false', Option.isNone_iff_eq_none, beq_true, beq_false, beq_iff_eq, beq_eq_false_iff_ne, ne_eq, decide_eq_decide, Bool.not_eq_true, Bool.not_eq_false, Decidable.not_not] at h); first | done | skip)))
    all_goals (first | (apply d_pass 7; (case hi => rfl); (case hg => rfl); (case hn => rfl); (case hf => kernel_rfl); (case hr => kernel_rfl); (case hd => rfl)) | (apply d_takeG 7; (case hi => rfl); (case hg => rfl); (case hop => first | ((apply r_load1; rfl; exact Cell.frozen (esCell hcp _ (by omega)))) | fail); (case hf => kernel_rfl); (case hr => kernel_rfl); (case hd => rfl)) | fail)
    all_goals (try (apply d_guardB 8; (case hi => rfl); (case hgd => rfl); (case h1 => rfl); (case h2 => first | rfl); all_goals (intro h; (try simp only [reduceCtorEq, dec_true, dec_false, decide_eq_true_eq, decide_eq_false_iff_not, Bool.not_eq_true', Bool.not_eq_false', Option.isNone_iff_eq_none, beq_true, beq_false, beq_iff_eq, beq_eq_false_iff_ne, ne_eq, decide_eq_decide, Bool.not_eq_true, Bool.not_eq_false, Decidable.not_not] at h); first | done | skip)))
    all_goals (first | (apply d_pass 8; (case hi => rfl); (case hg => rfl); (case hn => rfl); (case hf => kernel_rfl); (case hr => kernel_rfl); (case hd => rfl)) | (apply d_takeG 8; (case hi => rfl); (case hg => rfl); (case hop => first | (apply PureOp.read; apply p_move <;> rfl)); (case hf => kernel_rfl); (case hr => kernel_rfl); (case hd => rfl)) | fail)
    all_goals (try (apply d_guardB 9; (case hi => rfl); (case hgd => rfl); (case h1 => rfl); (case h2 => first | rfl); all_goals (intro h; (try simp only [reduceCtorEq, dec_true, dec_false, decide_eq_true_eq, decide_eq_false_iff_not, Bool.not_eq_true', Bool.not_eq_false', Option.isNone_iff_eq_none, beq_true, beq_false, beq_iff_eq, beq_eq_false_iff_ne, ne_eq, decide_eq_decide, Bool.not_eq_true, Bool.not_eq_false, Decidable.not_not] at h); first | done | skip)))
    all_goals (first | (apply d_pass 9; (case hi => rfl); (case hg => rfl); (case hn => rfl); (case hf => kernel_rfl); (case hr => kernel_rfl); (case hd => rfl)) | (apply d_takeG 9; (case hi => rfl); (case hg => rfl); (case hop => first | (apply PureOp.read; apply p_move <;> rfl)); (case hf => kernel_rfl); (case hr => kernel_rfl); (case hd => rfl)) | fail)
    all_goals (try (apply d_guardB 10; (case hi => rfl); (case hgd => rfl); (case h1 => rfl); (case h2 => first | rfl); all_goals (intro h; (try simp only [reduceCtorEq, dec_true, dec_false, decide_eq_true_eq, decide_eq_false_iff_not, Bool.not_eq_true', Bool.not_eq_false', Option.isNone_iff_eq_none, beq_true, beq_false, beq_iff_eq, beq_eq_false_iff_ne, ne_eq, decide_eq_decide, Bool.not_eq_true, Bool.not_eq_false, Decidable.not_not] at h); first | done | skip)))
    all_goals (first | (apply d_pass 10; (case hi => rfl); (case hg => rfl); (case hn => rfl); (case hf => kernel_rfl); (case hr => kernel_rfl); (case hd => rfl)) | (apply d_takeG 10; (case hi => rfl); (case hg => rfl); (case hop => first | (apply PureOp.read; apply p_sub; (case hx => rfl); (case hy => rfl); (case h => omega))); (case hf => kernel_rfl); (case hr => kernel_rfl); (case hd => rfl)) | fail)
    all_goals (try (apply d_guardB 11; (case hi => rfl); (case hgd => rfl); (case h1 => rfl); (case h2 => first | rfl); all_goals (intro h; (try simp only [reduceCtorEq, dec_true, dec_false, decide_eq_true_eq, decide_eq_false_iff_not, Bool.not_eq_true', Bool.not_eq_false', Option.isNone_iff_eq_none, beq_true, beq_false, beq_iff_eq, beq_eq_false_iff_ne, ne_eq, decide_eq_decide, Bool.not_eq_true, Bool.not_eq_false, Decidable.not_not] at h); first | done | skip)))
    all_goals (first | (apply d_pass 11; (case hi => rfl); (case hg => rfl); (case hn => rfl); (case hf => kernel_rfl); (case hr => kernel_rfl); (case hd => rfl)) | (apply d_takeG 11; (case hi => rfl); (case hg => rfl); (case hop => first | (apply PureOp.read; apply p_indexAddrS; (case hx => rfl); (case hi => rfl); (case h0 => omega); (case h => omega); (case hA => first | (apply_assumption; omega)))); (case hf => kernel_rfl); (case hr => kernel_rfl); (case hd => rfl)) | fail)
    all_goals (try (apply d_guardB 12; (case hi => rfl); (case hgd => rfl); (case h1 => rfl); (case h2 => first | rfl); all_goals (intro h; (try simp only [reduceCtorEq, dec_true, dec_false, decide_eq_true_eq, decide_eq_false_iff_not, Bool.not_eq_true', Bool.not_eq_false', Option.isNone_iff_eq_none, beq_true, beq_false, beq_iff_eq, beq_eq_false_iff_ne, ne_eq, decide_eq_decide, Bool.not_eq_true, Bool.not_eq_false, Decidable.not_not] at h); first | done | skip)))
    all_goals (first | (apply d_pass 12; (case hi => rfl); (case hg => rfl); (case hn => rfl); (case hf => kernel_rfl); (case hr => kernel_rfl); (case hd => rfl)) | (apply d_takeG 12; (case hi => rfl); (case hg => rfl); (case hop => first | (apply PureOp.read; apply p_fieldAddr <;> rfl)); (case hf => kernel_rfl); (case hr => kernel_rfl); (case hd => rfl)) | fail)
    all_goals (try (apply d_guardB 13; (case hi => rfl); (case hgd => rfl); (case h1 => rfl); (case h2 => first | rfl); all_goals (intro h; (try simp only [reduceCtorEq, dec_true, dec_false, decide_eq_true_eq, decide_eq_false_iff_not, Bool.not_eq_true', Bool.not_eq_false', Option.isNone_iff_eq_none, beq_true, beq_false, beq_iff_eq, beq_eq_false_iff_ne, ne_eq, decide_eq_decide, Bool.not_eq_true, Bool.not_eq_false, Decidable.not_not] at h); first | done | skip)))
    all_goals (first | (apply d_pass 13; (case hi => rfl); (case hg => rfl); (case hn => rfl); (case hf => kernel_rfl); (case hr => kernel_rfl); (case hd => rfl)) | (apply d_takeG 13; (case hi => rfl); (case hg => rfl); (case hop => first | ((apply r_load1; rfl; exact Cell.frozen (esCell hcp _ (by omega)))) | fail); (case hf => kernel_rfl); (case hr => kernel_rfl); (case hd => rfl)) | fail)
    all_goals (try (apply d_guardB 14; (case hi => rfl); (case hgd => rfl); (case h1 => rfl); (case h2 => first | rfl); all_goals (intro h; (try simp only [reduceCtorEq, dec_true, dec_false, decide_eq_true_eq, decide_eq_false_iff_not, Bool.not_eq_true', Bool.not_eq_false', Option.isNone_iff_eq_none, beq_true, beq_false, beq_iff_eq, beq_eq_false_iff_ne, ne_eq, decide_eq_decide, Bool.not_eq_true, Bool.not_eq_false, Decidable.not_not] at h); first | done | skip)))
    all_goals (first | (apply d_pass 14; (case hi => rfl); (case hg => rfl); (case hn => rfl); (case hf => kernel_rfl); (case hr => kernel_rfl); (case hd => rfl)) | (apply d_takeG 14; (case hi => rfl); (case hg => rfl); (case hop => first | (apply PureOp.read; apply p_le <;> rfl)); (case hf => kernel_rfl); (case hr => kernel_rfl); (case hd => rfl)) | fail)
    all_goals (first | (apply d_take 15; (case hi => rfl); (case hop => first | (apply PureOp.read; apply p_pickT <;> rfl) | (apply PureOp.read; apply p_pickF <;> rfl) | fail); (case hf => kernel_rfl); (case hr => kernel_rfl); (case hd => rfl)) | fail)
    all_goals (apply d_done; (case hr => kernel_rfl))
    repeat' (first | apply v_seq | apply v_region | apply v_nil | apply v_skip | apply v_blk | (apply v_pure; (case hop => first | (apply p_move <;> rfl) | (apply p_assign <;> rfl) | (apply p_add; (case hx => rfl); (case hy => rfl); (case h => omega)) | fail); (case hd => rfl)) | (apply v_condF; (case hc => rfl)) | (apply v_cond; (case hc => rfl); all_goals (intro h; (try simp only [reduceCtorEq, dec_true, dec_false, decide_eq_true_eq, decide_eq_false_iff_not, Bool.not_eq_true', Bool.not_eq_false', Option.isNone_iff_eq_none, beq_true, beq_false, beq_iff_eq, beq_eq_false_iff_ne, ne_eq, decide_eq_decide, Bool.not_eq_true, Bool.not_eq_false, Decidable.not_not] at h); first | skip)) | fail)
    all_goals try
      (refine v_ret [] (outsA1 rfl rfl) (by repeat (first | exact List.Sublist.refl _ | fail)) ?_
       refine ⟨?_, rfl⟩
       rw [hno, chkK_low hlt q0 (by omega) (by simp only [e1, e2] at *; omega)])
    all_goals
      (refine v_again rfl ⟨rfl, rfl, k + 1, by omega, rfl, ?_⟩ (by simp [headI]; omega)
       rw [hno]
       exact chkK_next hlt q0 (fun h0 => by simp only [e1, e2] at *; omega))
  · refine v_ret [] (outsA1 rfl rfl) (by repeat (first | exact List.Sublist.refl _ | fail)) ?_
    refine ⟨?_, rfl⟩
    rw [hno, chkK_end (by omega)]
/-- Some Bool. -/
def SomeB (G : GH) (r : Value) (G' : GH) (μ' : OH) : Prop := G' = G ∧ μ' = [] ∧ ∃ b, r = .bool b
theorem entLarge_s {G : GH} {l : List Ent} {sv : Value} (hs : Es G sv l) : Con Tryd.prog 35 #[sv] G [] (SomeB G) := by
  obtain ⟨A, c, rfl, hlc, hcm, hsome, hcp, hcb, hcc, hok⟩ := esOpen hs
  simp only [maxLen] at hcm
  have hz := fun i (h : i < l.length) => (hok i h).2.2.2
  simp only [Cm.ok, maxLen] at hz
  refine v_enter Tryd.func35 rfl Tryd.ntmps35 rfl (fun B => ?_)
  repeat' (first | apply v_seq | apply v_region | apply v_nil | apply v_block | (apply v_pure; (case hop => first | (apply p_assign <;> rfl) | fail); (case hd => rfl)) | fail)
  refine v_loop [3, 0] (fun us G' μ' => G' = G ∧ μ' = [] ∧ ∃ k, k ≤ l.length ∧ us = [Value.int .i64 (k : Nat), .slice A l.length c]) (fun us => l.length - (headI us).toNat) rfl ⟨rfl, rfl, 0, by omega, rfl⟩ ?_
  rintro us G' μ' ⟨rfl, rfl, k, hk, rfl⟩
  have e1 : ((k : Nat) : Int).toNat = k := by omega
  repeat' (first | apply v_seq | apply v_region | apply v_nil | apply v_skip | apply v_block | apply v_blk | (apply v_exit; (case hp => rfl)) | (apply v_take; (case hg => rfl)) | (apply v_pass; (case hg => rfl); (case hn => rfl); (case hd => rfl)) | (apply v_pure; (case hop => first | (apply p_move <;> rfl) | (apply p_lt <;> rfl) | (apply p_gt <;> rfl) | (apply p_assign <;> rfl) | (apply p_pickT <;> rfl) | (apply p_pickF <;> rfl) | (apply p_lenSlice <;> rfl) | (apply p_fieldAddrB <;> rfl) | (apply p_fieldAddr <;> rfl) | (apply p_add; (case hx => rfl); (case hy => rfl); (case h => omega)) | (apply p_indexAddrS; (case hx => rfl); (case hi => rfl); (case h0 => omega); (case h => omega); (case hA => first | (apply_assumption; omega))) | (apply p_lenString <;> rfl) | fail); (case hd => rfl)) | (apply v_condT; (case hc => rfl)) | (apply v_condF; (case hc => rfl)) | (apply v_cond; (case hc => rfl); all_goals (intro h; (try simp only [reduceCtorEq, dec_true, dec_false, decide_eq_true_eq, decide_eq_false_iff_not, Bool.not_eq_true', Bool.not_eq_false', Option.isNone_iff_eq_none, beq_true, beq_false, beq_iff_eq, beq_eq_false_iff_ne, ne_eq, decide_eq_decide, Bool.not_eq_true, Bool.not_eq_false, Decidable.not_not] at h); first | skip)) | (apply v_guardB; (case h1 => rfl); (case h2 => rfl); all_goals (intro h; (try simp only [reduceCtorEq, dec_true, dec_false, decide_eq_true_eq, decide_eq_false_iff_not, Bool.not_eq_true', Bool.not_eq_false', Option.isNone_iff_eq_none, beq_true, beq_false, beq_iff_eq, beq_eq_false_iff_ne, ne_eq, decide_eq_decide, Bool.not_eq_true, Bool.not_eq_false, Decidable.not_not] at h); first | skip)) | (apply v_read; (case hop => first | (apply r_load1; rfl; exact Cell.frozen (cmCell hcc _ (by omega) 3 _ rfl)) | (apply r_load1; rfl; exact Cell.frozen (cmCell hcc _ (by omega) 4 _ rfl)) | (apply r_load1; rfl; exact Cell.frozen (cmCell hcc _ (by omega) 5 _ rfl)) | fail); (case hd => rfl)) | fail)
  all_goals first
    | (refine v_ret [] (outsA1 rfl rfl) (by repeat (first | exact List.Sublist.refl _ | fail)) ?_
       exact ⟨rfl, rfl, _, rfl⟩)
    | (refine v_again rfl ⟨rfl, rfl, k + 1, by omega, rfl⟩ (by simp [headI]; omega))
/-! ### Kinds that a version has -/
def HasAll (v : Int) (l : List Ent) : Prop := ∀ i (h : i < l.length), HasV v l[i].cmd.kind
noncomputable instance (v : Int) (l : List Ent) : Decidable (HasAll v l) := Classical.propDecidable _
theorem refEntHas_s {G : GH} {l : List Ent} {sv : Value} (v : Int) (hs : Es G sv l) : Con Tryd.prog 37 #[.int .i64 v, sv] G [] (Just (.bool (decide (HasAll v l))) G) := by
  obtain ⟨A, c, rfl, hlc, hcm, hsome, hcp, hcb, hcc, hok⟩ := esOpen hs
  simp only [maxLen] at hcm
  apply Con.just
  refine v_enter Tryd.func37 rfl Tryd.ntmps37 rfl (fun B => ?_)
  repeat' (first | apply v_seq | apply v_region | apply v_nil | apply v_block | (apply v_pure; (case hop => first | (apply p_assign <;> rfl) | fail); (case hd => rfl)) | fail)
  refine v_loop [5, 1, 0] (fun us G' μ' => G' = G ∧ μ' = [] ∧ ∃ k, k ≤ l.length ∧ us = [Value.int .i64 (k : Nat), .slice A l.length c, .int .i64 v] ∧ ∀ i (h : i < l.length), i < k → HasV v l[i].cmd.kind) (fun us => l.length - (headI us).toNat) rfl ⟨rfl, rfl, 0, by omega, rfl, by omega⟩ ?_
  rintro us G' μ' ⟨rfl, rfl, k, hk, rfl, hno⟩
  have e1 : ((k : Nat) : Int).toNat = k := by omega
  have qh := fun (h : k < l.length) => refVHas_s G' v l[k].cmd.kind
  repeat' (first | apply v_seq | apply v_region | apply v_nil | apply v_skip | apply v_block | apply v_blk | (apply v_exit; (case hp => rfl)) | (apply v_pure; (case hop => first | (apply p_move <;> rfl) | (apply p_lt <;> rfl) | (apply p_assign <;> rfl) | (apply p_not <;> rfl) | (apply p_lenSlice <;> rfl) | (apply p_fieldAddrB <;> rfl) | (apply p_fieldAddr <;> rfl) | (apply p_add; (case hx => rfl); (case hy => rfl); (case h => omega)) | (apply p_indexAddrS; (case hx => rfl); (case hi => rfl); (case h0 => omega); (case h => omega); (case hA => first | (apply_assumption; omega))) | fail); (case hd => rfl)) | (apply v_cond; (case hc => rfl); all_goals (intro h; (try simp only [reduceCtorEq, dec_true, dec_false, decide_eq_true_eq, decide_eq_false_iff_not, Bool.not_eq_true', Bool.not_eq_false', Option.isNone_iff_eq_none, beq_true, beq_false, beq_iff_eq, beq_eq_false_iff_ne, ne_eq, decide_eq_decide, Bool.not_eq_true, Bool.not_eq_false, Decidable.not_not] at h); first | skip)) | (apply v_read; (case hop => first | (apply r_load1; rfl; exact Cell.frozen (cmCell hcc _ (by omega) 0 _ rfl)) | fail); (case hd => rfl)) | (apply v_callJ (hs := qh (by omega)); (case ha => rfl); (case hd => rfl)) | fail)
  · refine v_ret [] (outsA1 rfl rfl) (by repeat (first | exact List.Sublist.refl _ | fail)) ?_
    refine ⟨?_, rfl⟩
    rw [decide_eq_false (p := HasAll v l) (fun hh => absurd (hh k (by omega)) (by assumption))]
  · refine v_again rfl ⟨rfl, rfl, k + 1, by omega, rfl, fun i h hi => ?_⟩ (by simp [headI]; omega)
    by_cases hik : i = k
    · subst hik; assumption
    · exact hno i h (by omega)
  · refine v_ret [] (outsA1 rfl rfl) (by repeat (first | exact List.Sublist.refl _ | fail)) ?_
    refine ⟨?_, rfl⟩
    rw [decide_eq_true (p := HasAll v l) (fun i h => hno i h (by omega))]
end Go.Proofs.YtnoiahlpmgbhfaaDoor
/-
  entry (layer 12), the fourth part: the place of an index (slices.BinarySearchFunc).
-/
set_option linter.unusedSimpArgs false
set_option linter.unusedVariables false
namespace Go.Proofs.YtnoiahlpmgbhfaaDoor
open Go.Vx Go.ChangeShapes Go.WideShapes Go.ChangeAt Go.RowKit
theorem p_convE64 {σ : Env} {ty : TypeId} {x : Operand} {k k'' : IntKind} {a : Int} {t u : TypeId} [Ty Tryd.prog t (.int k'')] [Ty Tryd.prog u (.int .u64)] (hx : Env.ev σ x = some (.int k a)) (h : 0 ≤ a ∧ a ≤ 9223372036854775807) : PureOp Tryd.prog (.convert t u x) ty σ (.int .u64 a) := by
  have e : IntKind.u64.wrap a = a := by rw [IntKind.wrap_u64]; omega
  have := p_conv (P := Tryd.prog) (ty := ty) (t := t) (u := u) hx
  rwa [e] at this
theorem p_convUW {σ : Env} {ty : TypeId} {x : Operand} {k'' : IntKind} {a : Int} {t u : TypeId} [Ty Tryd.prog t (.int k'')] [Ty Tryd.prog u (.int .u64)] (hx : Env.ev σ x = some (.int .i64 (IntKind.i64.wrap a))) (h : 0 ≤ a ∧ a ≤ 18446744073709551615) : PureOp Tryd.prog (.convert t u x) ty σ (.int .u64 a) := by
  have e : IntKind.u64.wrap (IntKind.i64.wrap a) = a := by rw [IntKind.wrap_u64, IntKind.wrap_i64]; omega
  have := p_conv (P := Tryd.prog) (ty := ty) (t := t) (u := u) hx
  rwa [e] at this
attribute [local semireducible] PureOp in
theorem p_shr1 {σ : Env} {ty : TypeId} {x y : Operand} {k' : IntKind} {a : Int} {t t' : TypeId} (hx : Env.ev σ x = some (.int .u64 a)) (hy : Env.ev σ y = some (.int k' 1)) : PureOp Tryd.prog (.binOp .shr t x y t') ty σ (.int .u64 (a / 2)) := by
  intro dst pos af g ρ hρ w
  have := shift_shr .u64 k' a 1 (by decide) (by decide)
  simp [execOp, hρ _ _ hx, hρ _ _ hy, eqGuard, binOp_shr, this]
theorem isNaN_s (G : GH) (a : Int) : Con Tryd.prog 155 #[.int .i64 a] G [] (Just (.bool false) G) := by
  apply Con.just
  refine v_enter Tryd.func155 rfl Tryd.ntmps155 rfl (fun B => ?_)
  repeat' (first | apply v_seq | apply v_region | apply v_nil | (apply v_pure; (case hop => first | (apply p_move <;> rfl) | (apply p_nes <;> rfl) | (apply p_assign <;> rfl) | fail); (case hd => rfl)) | fail)
  refine v_ret [] (outsA1 rfl rfl) (by repeat (first | exact List.Sublist.refl _ | fail)) ?_
  refine ⟨?_, rfl⟩
  simp [dec_eq]
def cmpI (a b : Int) : Int := if a < b then -1 else if b < a then 1 else 0
theorem cmp_s (G : GH) (a b : Int) : Con Tryd.prog 127 #[.int .i64 a, .int .i64 b] G [] (Just (.int .i64 (cmpI a b)) G) := by
  have qa := isNaN_s G a
  have qb := isNaN_s G b
  apply Con.just
  refine v_enter Tryd.func127 rfl Tryd.ntmps127 rfl (fun B => ?_)
  repeat' (first | apply v_seq | apply v_region | apply v_nil | apply v_skip | (apply v_pure; (case hop => first | (apply p_move <;> rfl) | (apply p_lt <;> rfl) | (apply p_gt <;> rfl) | (apply p_assign <;> rfl)); (case hd => rfl)) | (apply v_condF; (case hc => rfl)) | (apply v_cond; (case hc => rfl); all_goals (intro h; (try simp only [reduceCtorEq, dec_true, dec_false, decide_eq_true_eq, decide_eq_false_iff_not, Bool.not_eq_true', Bool.not_eq_false', Option.isNone_iff_eq_none, beq_true, beq_false, beq_iff_eq, beq_eq_false_iff_ne, ne_eq, decide_eq_decide, Bool.not_eq_true, Bool.not_eq_false, Decidable.not_not] at h); first | skip)) | (apply v_callJ (hs := qa); (case ha => rfl); (case hd => rfl)) | (apply v_callJ (hs := qb); (case ha => rfl); (case hd => rfl)) | fail)
  all_goals
    (refine v_ret [] (outsA1 rfl rfl) (by repeat (first | exact List.Sublist.refl _ | fail)) ?_
     refine ⟨?_, rfl⟩
     simp [cmpI, *])
theorem cmpI_lt {a b : Int} : cmpI a b < 0 ↔ a < b := by unfold cmpI; split <;> (try split) <;> simp <;> omega
theorem cmpI_eq {a b : Int} : cmpI a b = 0 ↔ a = b := by unfold cmpI; split <;> (try split) <;> simp <;> omega
theorem place1_s (G : GH) (x : Ent) (n : Int) : Con Tryd.prog 151 #[.agg x.cells.toArray, .int .i64 n] G [] (Just (.int .i64 (cmpI x.index n)) G) := by
  have qc := cmp_s G x.index n
  apply Con.just
  refine v_enter Tryd.func151 rfl Tryd.ntmps151 rfl (fun B => ?_)
  repeat' (first | apply v_seq | apply v_region | apply v_nil | (apply v_pure; (case hop => first | (apply p_move <;> rfl) | (apply p_assign <;> rfl) | (apply p_fieldAddrB <;> rfl) | fail); (case hd => rfl)) | (apply v_box (zs := x.cells); (case hx => rfl); (case hz => rfl); (case hd => rfl); intro b) | (apply v_callJ (hs := qc); (case ha => rfl); (case hd => rfl)) | (apply v_read; (case hop => first | (apply r_load1; rfl; (apply Cell.own; (case h => (repeat (first | exact List.Mem.head _ | fail))); rfl)) | fail); (case hd => rfl)) | fail)
  refine v_ret [] (outsA1 rfl rfl) (by repeat (first | exact List.nil_sublist _ | fail)) ?_
  exact ⟨rfl, rfl⟩
/-- Indices rise. -/
def RiseL (l : List Ent) : Prop := ∀ i j (hj : j < l.length) (h : i < j), (l[i]'(by omega)).index < l[j].index
def placeN (l : List Ent) (n : Int) : Nat := l.countP fun x => decide (x.index < n)
theorem placeN_eq {l : List Ent} {n : Int} {i : Nat} (hi : i ≤ l.length) (h1 : ∀ m (h : m < l.length), m < i → l[m].index < n) (h2 : ∀ m (h : m < l.length), i ≤ m → ¬ l[m].index < n) : placeN l n = i := by
  have e : l = l.take i ++ l.drop i := (List.take_append_drop i l).symm
  rw [placeN, e, List.countP_append, List.countP_eq_length.2, List.countP_eq_zero.2, List.length_take, Nat.add_zero]
  · omega
  · intro x hx
    obtain ⟨m, hm, rfl⟩ := List.getElem_of_mem hx
    rw [List.length_drop] at hm
    rw [List.getElem_drop]
    simpa using h2 (i + m) (by omega) (by omega)
  · intro x hx
    obtain ⟨m, hm, rfl⟩ := List.getElem_of_mem hx
    rw [List.length_take] at hm
    rw [List.getElem_take]
    simpa using h1 m (by omega) (by omega)
noncomputable def hitB (l : List Ent) (n : Int) : Bool := if h : placeN l n < l.length then decide ((l[placeN l n]).index = n) else false
theorem entSearch_s {G : GH} {l : List Ent} {sv : Value} (n : Int) (hs : Es G sv l) (hr : RiseL l) : Con Tryd.prog 150 #[sv, .int .i64 n, .func (.func 151) #[] #[]] G [] (Just (.tuple [.int .i64 (placeN l n : Nat), .bool (hitB l n)].toArray) G) := by
  obtain ⟨A, c, rfl, hlc, hcm, hsome, hcp, hcb, hcc, hok⟩ := esOpen hs
  simp only [maxLen] at hcm
  apply Con.just
  refine v_enter Tryd.func150 rfl Tryd.ntmps150 rfl (fun B => ?_)
  repeat' (first | apply v_seq | apply v_region | apply v_nil | apply v_block | (apply v_pure; (case hop => first | (apply p_move <;> rfl) | (apply p_assign <;> rfl) | (apply p_lenSlice <;> rfl) | fail); (case hd => rfl)) | fail)
  refine v_loop [9, 10, 8, 0, 1, 2] (fun us G' μ' => G' = G ∧ μ' = [] ∧ ∃ i j : Nat, i ≤ j ∧ j ≤ l.length ∧ us = [Value.int .i64 (i : Nat), .int .i64 (j : Nat), .int .i64 l.length, .slice A l.length c, .int .i64 n, .func (.func 151) #[] #[]] ∧ (∀ m (h : m < l.length), m < i → l[m].index < n) ∧ (∀ m (h : m < l.length), j ≤ m → ¬ l[m].index < n)) (fun us => match us with | .int _ i :: .int _ j :: _ => (j - i).toNat | _ => 0) rfl ⟨rfl, rfl, 0, l.length, by omega, by omega, rfl, by omega, by omega⟩ ?_
  rintro us G' μ' ⟨rfl, rfl, i, j, hij, hj, rfl, h1, h2⟩
  have qp := fun (m : Nat) (h : m < l.length) => place1_s G' l[m] n
  have em : ((((i : Nat) : Int) + ((j : Nat) : Int)) / 2).toNat = (i + j) / 2 := by omega
  repeat' (first | apply v_seq | apply v_region | apply v_nil | apply v_skip | apply v_block | apply v_blk | (apply v_exit; (case hp => rfl)) | (apply v_take; (case hg => rfl)) | (apply v_pass; (case hg => rfl); (case hn => rfl); (case hd => rfl)) | (apply v_pure; (case hop => first | (apply p_move <;> rfl) | (apply p_eq <;> rfl) | (apply p_lt <;> rfl) | (apply p_assign <;> rfl) | (apply p_pickT <;> rfl) | (apply p_pickF <;> rfl) | (apply p_add; (case hx => rfl); (case hy => rfl); (case h => omega)) | (apply p_indexAddrS; (case hx => rfl); (case hi => rfl); (case h0 => omega); (case h => omega); (case hA => first | (apply_assumption; omega))) | (apply p_conv64; (case hx => rfl); (case h => omega)) | fail); (case hd => rfl)) | (apply v_cond; (case hc => rfl); all_goals (intro h; (try simp only [reduceCtorEq, dec_true, dec_false, decide_eq_true_eq, decide_eq_false_iff_not, Bool.not_eq_true', Bool.not_eq_false', Option.isNone_iff_eq_none, beq_true, beq_false, beq_iff_eq, beq_eq_false_iff_ne, ne_eq, decide_eq_decide, Bool.not_eq_true, Bool.not_eq_false, Decidable.not_not] at h); first | skip)) | (apply v_guardB; (case h1 => rfl); (case h2 => rfl); all_goals (intro h; (try simp only [reduceCtorEq, dec_true, dec_false, decide_eq_true_eq, decide_eq_false_iff_not, Bool.not_eq_true', Bool.not_eq_false', Option.isNone_iff_eq_none, beq_true, beq_false, beq_iff_eq, beq_eq_false_iff_ne, ne_eq, decide_eq_decide, Bool.not_eq_true, Bool.not_eq_false, Decidable.not_not] at h); first | skip)) | (apply v_pure; (case hop => (apply p_convUW; (case hx => rfl); (case h => omega))); (case hd => rfl)) | (apply v_pure; (case hop => (apply p_addw; (case hx => rfl); (case hy => rfl))); (case hd => rfl)) | (apply v_pure; (case hop => (apply p_shr1; (case hx => rfl); (case hy => rfl))); (case hd => rfl)) | (apply v_read; (case hop => first | (apply r_loadN; rfl; exact CellsAt.frozen (hcp _ (by omega)); rfl)); (case hd => rfl)) | (apply v_callFJ0 (hs := qp ((((i : Nat) : Int) + ((j : Nat) : Int)) / 2).toNat (by omega)); (case hx => rfl); (case ha => rfl); (case hd => rfl)) | (apply v_callFJ0 (hs := qp i (by omega)); (case hx => rfl); (case ha => rfl); (case hd => rfl)) | fail)
  · have hc : (l[(i + j) / 2]'(by omega)).index < n := by
      have h0 := cmpI_lt.1 ‹cmpI _ _ < 0›
      simpa only [em] using h0
    refine v_again rfl ⟨rfl, rfl, (i + j) / 2 + 1, j, by omega, hj, rfl, fun m hm hlt => ?_, h2⟩ ?_
    · by_cases he : m = (i + j) / 2
      · subst he; exact hc
      · have := hr m ((i + j) / 2) (by omega) (by omega)
        omega
    · simp only; omega
  · have hc : ¬ (l[(i + j) / 2]'(by omega)).index < n := by
      have h0 := mt cmpI_lt.2 ‹¬ cmpI _ _ < 0›
      simpa only [em] using h0
    refine v_again rfl ⟨rfl, rfl, i, (i + j) / 2, by omega, by omega, rfl, h1, fun m hm hlt => ?_⟩ ?_
    · by_cases he : m = (i + j) / 2
      · subst he; exact hc
      · have := hr ((i + j) / 2) m hm (by omega)
        omega
    · simp only; omega
  · have hp : placeN l n = i := placeN_eq (by omega) h1 (fun m h hm => h2 m h (by omega))
    refine v_ret [] (outsA2 rfl rfl rfl) (by repeat (first | exact List.Sublist.refl _ | fail)) ?_
    refine ⟨?_, rfl⟩
    unfold hitB
    simp only [hp]
    rw [dif_pos (by omega)]
    congr 5
    rw [Bool.eq_iff_iff, dec_true, decide_eq_true_iff, cmpI_eq]
  · have hp : placeN l n = i := placeN_eq (by omega) h1 (fun m h hm => h2 m h (by omega))
    refine v_ret [] (outsA2 rfl rfl rfl) (by repeat (first | exact List.Sublist.refl _ | fail)) ?_
    refine ⟨?_, rfl⟩
    unfold hitB
    simp only [hp]
    rw [dif_neg (by omega)]
theorem place_s {G : GH} {l : List Ent} {sv : Value} (n : Int) (hs : Es G sv l) (hr : RiseL l) : Con Tryd.prog 118 #[sv, .int .i64 n] G [] (Just (.tuple [.int .i64 (placeN l n : Nat), .bool (hitB l n)].toArray) G) := by
  have qs := entSearch_s n hs hr
  apply Con.just
  refine v_enter Tryd.func118 rfl Tryd.ntmps118 rfl (fun B => ?_)
  repeat' (first | apply v_seq | apply v_region | apply v_nil | (apply v_pure; (case hop => first | (apply p_move <;> rfl) | (apply p_assign <;> rfl) | (apply p_extract0 <;> rfl) | (apply p_extract1 <;> rfl) | fail); (case hd => rfl)) | (apply v_callJ (hs := qs); (case ha => rfl); (case hd => rfl)) | fail)
  refine v_ret [] (outsA2 rfl rfl rfl) (by repeat (first | exact List.Sublist.refl _ | fail)) ?_
  exact ⟨rfl, rfl⟩
end Go.Proofs.YtnoiahlpmgbhfaaDoor
/-
  VX: copy, append of zeros, slices.overlaps.
-/
set_option linter.unusedVariables false
set_option linter.unusedSimpArgs false
namespace Go.Vx
attribute [local semireducible] Vc MoveOp PureOp ReadOp DVc Con
open Go Go.Lib
section
variable {P : Program} {fn : Func} {n : Nat} {B : Base} {Φ : Value → GH → OH → Prop} {k : List It} {rest : List Oper} {all : Array Oper} {σ : Env} {G : GH} {μ : OH} {d : Nat} {t ty : TypeId} {pos : String} {af : Array Edge} {bytes : Nat} {zero : Value}
theorem m_copy {e : TypeId} {agg : Bool} {sz : Nat} {y x : Operand} {b o m c m' q : Nat} {u : Value} {vs us vs' : List Value} {μ' : OH} [Ty P t (.slice e)] [Lay P e agg sz bytes zero] (hy : Env.ev σ y = some (.slice (some ⟨b, o, none⟩) m c)) (hx : Env.ev σ x = some u) (hq : Nat.min m' m = q) (hm : 0 < m') (hsrc : Src G μ u m' sz us)
    (hb : Has μ b vs e) (h1 : (us.take (q * sz)).all Value.oneCell' = true) (hfit : o + q * sz ≤ vs.length) (hov : over vs o (us.take (q * sz)) = vs') (hu : Upd b (.cells vs'.toArray e (0, 0)) μ μ') :
    MoveOp P (.call { callee := .builtin .copy, args := #[y, x], argTypes := #[t, t] }) ty σ G μ (fun v' G' μ'' => v' = .int .i64 q ∧ G' = G ∧ μ'' = μ') := by
  intro dst pos af g ρ hρ w hw a K Q hK
  obtain ⟨i, hi, hi1, hi2, hi3⟩ := Lay.infoEx (P := P) (t := e) (agg := agg) (size := sz) (bytes := bytes) (zero := zero) inferInstance
  have ht : P.underlying t = some (.slice e) := Ty.h
  obtain ⟨hus, A, c', rfl, hA⟩ := hsrc
  obtain ⟨ad, rfl, hcs⟩ := hA hm
  have hqm : q ≤ m' := by rw [← hq]; exact Nat.min_le_left _ _
  have hlen : (us.take (q * sz)).length = q * sz := by
    rw [List.length_take, hus]
    exact Nat.min_eq_left (Nat.mul_le_mul_right _ hqm)
  have hl := run_firstCells_some (P := P) w i.size q ad m' c' (us.take (q * sz)) (by rw [hlen, hi1]) (fun j v hv => by
    rw [List.getElem?_take] at hv
    split at hv
    · exact hcs j v hv w hw.sees
    · cases hv)
  have hst := run_storeCells_at P b o e (us.take (q * sz)) 0 vs.toArray w (hw.own b _ hb) (by simp only [Nat.add_zero, List.size_toArray, hlen]; exact hfit) (fun v hv => List.all_eq_true.1 h1 v hv)
  simp only [Nat.add_zero] at hst
  have hov' : (vs.toArray.toList.take o ++ us.take (q * sz) ++ vs.toArray.toList.drop (o + (us.take (q * sz)).length)) = vs' := by rw [← hov]; rfl
  rw [hov'] at hst
  have hr : (Builtin.copy_ #[t, t] ty #[.slice (some ⟨b, o, none⟩) m c, .slice (some ad) m' c']).run P w = .ok (.int .i64 q) (w.setRow b vs'.toArray) := by
    simp [Builtin.copy_, run_underlying ht, Builtin.lenOf, sizeOf, typeInfo, hi, hq, hl, hst, goInt]
  have hex : (execOp ρ ⟨dst, .call { callee := .builtin .copy, args := #[y, x], argTypes := #[t, t] }, ty, pos, af, g⟩).run P w = .ok (.value (.int .i64 q)) (w.setRow b vs'.toArray) := by
    simp only [execOp, resolve, invoke, builtin, Sem.run_bind, Sem.run_pure, Result.andThen_ok, List.map_toArray, List.map_cons, List.map_nil, hρ _ _ hy, hρ _ _ hx, hr]
  rw [hex]
  exact hK _ _ G _ (Step.row hw hb hu) ⟨rfl, rfl, rfl⟩
theorem v_copy {e : TypeId} {agg : Bool} {sz : Nat} {y x : Operand} {b o m c m' q : Nat} {u : Value} {vs us vs' : List Value} {μ' : OH} [Ty P t (.slice e)] [Lay P e agg sz bytes zero] (hy : Env.ev σ y = some (.slice (some ⟨b, o, none⟩) m c)) (hx : Env.ev σ x = some u) (hq : Nat.min m' m = q) (hm : 0 < m') (hsrc : Src G μ u m' sz us)
    (hb : Has μ b vs e) (h1 : (us.take (q * sz)).all Value.oneCell' = true) (hfit : o + q * sz ≤ vs.length) (hov : over vs o (us.take (q * sz)) = vs') (hu : Upd b (.cells vs'.toArray e (0, 0)) μ μ') (hd : Nat.blt d n = true)
    (h : Vc P fn n B Φ (.ops all rest :: k) ((d, .int .i64 q) :: σ) G μ') : Vc P fn n B Φ (.ops all (⟨some d, .call { callee := .builtin .copy, args := #[y, x], argTypes := #[t, t] }, ty, pos, af, none⟩ :: rest) :: k) σ G μ :=
  v_move (m_copy hy hx hq hm hsrc hb h1 hfit hov hu) hd fun _ _ _ ⟨h1, h2, h3⟩ => by rw [h1, h2, h3]; exact h
theorem Src.ownAt {e : TypeId} {b o m sz c : Nat} {vs us : List Value} (h : Has μ b vs e) (hus : (vs.drop o).take (m * sz) = us) (hl : us.length = m * sz) : Src G μ (.slice (some ⟨b, o, none⟩) m c) m sz us := ⟨hl, _, _, rfl, fun _ => ⟨_, rfl, by rw [← hus]; exact CellsAt.ownAt h⟩⟩
/-- append(s, make(T, q)...) where there is no room. -/
theorem m_appendZ {e : TypeId} {agg : Bool} {sz : Nat} {s x : Operand} {A : Option Addr} {m c q : Nat} {xs : List Value} {tn : TypeId} [Ty P t (.slice e)] [Ty P tn (.int .i64)] [Lay P e agg sz bytes zero] (hzs : zero.cells.size = sz) (hsz : 0 < sz) (hs : Env.ev σ s = some (.slice A m c)) {z : Int} (hx : Env.ev σ x = some (.int .i64 z)) (hz : z = (q : Nat)) (hsrc : Src G μ (.slice A m c) m sz xs) (hq : 0 < q) (hroom : c < m + q)
    (hb : (m + q) * bytes ≤ 140737488355328) (hb' : m + q ≤ maxLen) :
    MoveOp P (.call { callee := .builtin .append, args := #[s, x], argTypes := #[t, tn] }) ty σ G μ (fun v' G' μ' => ∃ b c' spare, v' = .slice (some ⟨b, 0, none⟩) (m + q) c' ∧ m + q ≤ c' ∧ c' ≤ maxLen ∧ (xs ++ (Builtin.zeroCells zero.cells q).toList ++ spare).length = c' * sz ∧ G' = G ∧ μ' = (b, .cells (xs ++ (Builtin.zeroCells zero.cells q).toList ++ spare).toArray e (0, 0)) :: μ) := by
  subst hz
  intro dst pos af g ρ hρ w hw a K Q hK
  obtain ⟨i, hi, hi1, hi2, hi3⟩ := Lay.infoEx (P := P) (t := e) (agg := agg) (size := sz) (bytes := bytes) (zero := zero) inferInstance
  have ht : P.underlying t = some (.slice e) := Ty.h
  have htn : P.underlying tn = some (.int .i64) := Ty.h
  obtain ⟨hus, A', c', he, hA⟩ := hsrc
  cases he
  have hold : (Builtin.firstCells i.size m (.slice A m c)).run P w.drew = .ok xs.toArray w.drew := by
    by_cases hm : 0 < m
    · obtain ⟨ad, rfl, hcs⟩ := hA hm
      exact run_firstCells_some (P := P) w.drew i.size m ad m c xs (by rw [hus, hi1]) (fun j v hv => hcs j v hv w hw.sees)
    · obtain rfl : m = 0 := by omega
      have hx0 : xs = [] := List.eq_nil_of_length_eq_zero (by simpa using hus)
      subst hx0
      cases A <;> simp [Builtin.firstCells, loadCells, loadCellsFrom]
  have hr := run_append_grow_zeros (P := P) w t tn ty e i zero .i64 .i64 ht htn hi hi3 A m c xs hold q hq (by omega) hroom (by simp only [maxLen] at hb'; omega)
    (by rw [hi2]; have := Nat.mul_le_mul_right bytes (show q ≤ m + q by omega); omega) (growslice_fits (by omega) (by rw [hi2]; exact hb))
  have hex : (execOp ρ ⟨dst, .call { callee := .builtin .append, args := #[s, x], argTypes := #[t, tn] }, ty, pos, af, g⟩).run P w = .ok (.value (.slice (some ⟨w.heap.size, 0, none⟩) (m + q) (grownCap w (m + q) c e)))
        (w.drew.alloc (.cells (xs.toArray ++ Builtin.zeroCells zero.cells q ++ Builtin.zeroCells zero.cells (grownCap w (m + q) c e - (m + q))) e)) := by
    simp only [execOp, resolve, invoke, builtin, Sem.run_bind, Sem.run_pure, Result.andThen_ok, List.map_toArray, List.map_cons, List.map_nil, hρ _ _ hs, hρ _ _ hx, hr]
  rw [hex]
  have hge := grownCap_ge w (m + q) c e
  have hst := (Step.drew hw 1).trans (Step.alloc (Step.drew hw 1).mem (.cells (xs.toArray ++ Builtin.zeroCells zero.cells q ++ Builtin.zeroCells zero.cells (grownCap w (m + q) c e - (m + q))) e (0, 0)))
  refine hK _ _ G _ hst ⟨w.heap.size, grownCap w (m + q) c e, (Builtin.zeroCells zero.cells (grownCap w (m + q) c e - (m + q))).toList, rfl, hge, grownCap_le_maxLen w (m + q) c e hb', ?_, rfl, ?_⟩
  · simp only [List.length_append, Array.length_toList, size_zeroCells, hzs, hus, ← Nat.add_mul]
    congr 1
    omega
  · simp [World.drewN]
theorem v_appendZ {e : TypeId} {agg : Bool} {sz : Nat} {s x : Operand} {A : Option Addr} {m c q : Nat} {xs : List Value} {tn : TypeId} [Ty P t (.slice e)] [Ty P tn (.int .i64)] [Lay P e agg sz bytes zero] (hzs : zero.cells.size = sz) (hsz : 0 < sz) (hs : Env.ev σ s = some (.slice A m c)) {z : Int} (hx : Env.ev σ x = some (.int .i64 z)) (hz : z = (q : Nat)) (hsrc : Src G μ (.slice A m c) m sz xs) (hq : 0 < q) (hroom : c < m + q)
    (hb : (m + q) * bytes ≤ 140737488355328) (hb' : m + q ≤ maxLen) (hd : Nat.blt d n = true)
    (h : ∀ b c' spare, m + q ≤ c' → c' ≤ maxLen → (xs ++ (Builtin.zeroCells zero.cells q).toList ++ spare).length = c' * sz → Vc P fn n B Φ (.ops all rest :: k) ((d, .slice (some ⟨b, 0, none⟩) (m + q) c') :: σ) G ((b, .cells (xs ++ (Builtin.zeroCells zero.cells q).toList ++ spare).toArray e (0, 0)) :: μ)) :
    Vc P fn n B Φ (.ops all (⟨some d, .call { callee := .builtin .append, args := #[s, x], argTypes := #[t, tn] }, ty, pos, af, none⟩ :: rest) :: k) σ G μ :=
  v_move (m_appendZ hzs hsz hs hx hz hsrc hq hroom hb hb') hd fun _ _ _ ⟨b, c', sp, h1, h2, h3, h4, h5, h6⟩ => by rw [h1, h5, h6]; exact h b c' sp h2 h3 h4
/-- The function is the library's slices.overlaps. -/
class Overl (P : Program) (f : FuncId) (e : outParam TypeId) (tR : outParam TypeId) : Prop where
  h : ∃ ts, P.underlying ts = some (.slice e) ∧ ∀ args w, (callFunc f args).run P w = ((Extern.SlicesOverlaps.overlaps #[ts, ts] #[tR] args).run P w).andThen fun v w' => .ok (.value v) w'
theorem m_apart {f : FuncId} {e tR : TypeId} [ho : Overl P f e tR] {agg : Bool} {sz : Nat} [Lay P e agg sz bytes zero] {x y : Operand} {ts : Array TypeId} {b1 o1 m1 c1 b2 o2 m2 c2 : Nat} {vs1 vs2 : List Value} {e1 e2 : TypeId} (hx : Env.ev σ x = some (.slice (some ⟨b1, o1, none⟩) m1 c1)) (hy : Env.ev σ y = some (.slice (some ⟨b2, o2, none⟩) m2 c2))
    (h1 : Has μ b1 vs1 e1) (h2 : Has μ b2 vs2 e2) (hne : b1 ≠ b2) (h0 : vs2 ≠ []) :
    MoveOp P (.call { callee := .value (.func f), args := #[x, y], argTypes := ts }) ty σ G μ (fun v' G' μ' => v' = .bool false ∧ G' = G ∧ μ' = μ) := by
  intro dst pos af g ρ hρ w hw a K Q hK
  obtain ⟨T, hT, hc⟩ := ho.h
  have w1 := hw.own _ _ h1
  have w2 := hw.own _ _ h2
  have hr := run_overlaps_apart (P := P) w T tR e hT sz (fun w => run_sizeOf (P := P) (t := e) (agg := agg) (size := sz) (bytes := bytes) (zero := zero) w) ⟨b1, o1, none⟩ ⟨b2, o2, none⟩ m1 c1 m2 c2 hne e1 e2 vs1.length vs2.length
    (by simp [World.shape?, w1]) (by simp [World.shape?, w2]) (by simpa using h0) (by simp [World.frozen?, w1]) (by simp [World.frozen?, w1])
  have hf : ρ (.func f) = .func (.func f) #[] #[] := hρ _ _ rfl
  have hex : (execOp ρ ⟨dst, .call { callee := .value (.func f), args := #[x, y], argTypes := ts }, ty, pos, af, g⟩).run P w = .ok (.value (.bool false)) w := by
    simp [execOp, resolve, hf, Deferred.ofValue, invoke, hρ _ _ hx, hρ _ _ hy, hc, hr]
  rw [hex]
  exact hK _ _ G μ (Step.refl hw) ⟨rfl, rfl, rfl⟩
/-- Two blocks of ours are two. -/
theorem v_ne {is : List It} {b b' : Nat} {o : Obj} {r : OH} (hm : b' ∈ r.map (·.1)) (h : b' ≠ b → Vc P fn n B Φ is σ G ((b, o) :: r)) : Vc P fn n B Φ is σ G ((b, o) :: r) := by
  intro w hw a ha
  refine h (fun e => ?_) w hw a ha
  have := hw.mem.nodup
  rw [List.map_cons, List.nodup_cons] at this
  exact this.1 (e ▸ hm)
theorem v_apart {f : FuncId} {e tR : TypeId} [ho : Overl P f e tR] {agg : Bool} {sz : Nat} [Lay P e agg sz bytes zero] {x y : Operand} {ts : Array TypeId} {b1 o1 m1 c1 b2 o2 m2 c2 : Nat} {vs1 vs2 : List Value} {e1 e2 : TypeId} (hx : Env.ev σ x = some (.slice (some ⟨b1, o1, none⟩) m1 c1)) (hy : Env.ev σ y = some (.slice (some ⟨b2, o2, none⟩) m2 c2))
    (h1 : Has μ b1 vs1 e1) (h2 : Has μ b2 vs2 e2) (hne : b1 ≠ b2) (h0 : vs2 ≠ []) (hd : Nat.blt d n = true)
    (h : Vc P fn n B Φ (.ops all rest :: k) ((d, .bool false) :: σ) G μ) : Vc P fn n B Φ (.ops all (⟨some d, .call { callee := .value (.func f), args := #[x, y], argTypes := ts }, ty, pos, af, none⟩ :: rest) :: k) σ G μ :=
  v_move (m_apart (sz := sz) (agg := agg) (bytes := bytes) (zero := zero) hx hy h1 h2 hne h0) hd fun _ _ _ ⟨h1, h2, h3⟩ => by rw [h1, h2, h3]; exact h
theorem d_copy {ν μ' : OH} {G0 : GH} {m0 : Nat} {listed : Array Bool} (i : Nat) {e : TypeId} {agg : Bool} {sz : Nat} {y x : Operand} {b o m c m' q : Nat} {u : Value} {vs us vs' : List Value} (hi : all[i]? = some ⟨some d, .call { callee := .builtin .copy, args := #[y, x], argTypes := #[t, t] }, ty, pos, af, none⟩) (hT : Ty P t (.slice e)) (hL : Lay P e agg sz bytes zero) (hr : Region.ready .any all listed = [i])
    (hy : Env.ev σ y = some (.slice (some ⟨b, o, none⟩) m c)) (hx : Env.ev σ x = some u) (hq : Nat.min m' m = q) (hm : 0 < m') (hsrc : Src G μ u m' sz us)
    (hb : Has μ b vs e) (h1 : (us.take (q * sz)).all Value.oneCell' = true) (hfit : o + q * sz ≤ vs.length) (hov : over vs o (us.take (q * sz)) = vs') (hu : Upd b (.cells vs'.toArray e (0, 0)) μ μ') (hd : Nat.blt d n = true) (hν' : ∀ e ∈ ν, e ∈ μ')
    (h : DVc P fn n B Φ all G0 ν m0 (listed.setIfInBounds i true) k ((d, .int .i64 q) :: σ) G μ') : DVc P fn n B Φ all G0 ν (m0 + 1) listed k σ G μ :=
  d_exec i hi hr (m_copy hy hx hq hm hsrc hb h1 hfit hov hu) hd fun _ _ _ ⟨h1, h2, h3⟩ => by rw [h1, h2, h3]; exact ⟨hν', h⟩
end
end Go.Vx
/-
  entry (layer 12), the fifth part: clones of entries, and slices.Insert.
-/
set_option linter.unusedSimpArgs false
set_option linter.unusedVariables false
namespace Go.Proofs.YtnoiahlpmgbhfaaDoor
open Go.Vx Go.ChangeShapes Go.WideShapes Go.ChangeAt Go.RowKit
/-- The cells of entries. -/
def esC (l : List Ent) : List Value := (l.map Ent.cells).flatten
theorem cells_length (x : Ent) : x.cells.length = 10 := rfl
theorem esC_cons (x : Ent) (l : List Ent) : esC (x :: l) = x.cells ++ esC l := by simp [esC]
theorem esC_append (a b : List Ent) : esC (a ++ b) = esC a ++ esC b := by simp [esC]
theorem esC_length (l : List Ent) : (esC l).length = l.length * 10 := by
  induction l with
  | nil => rfl
  | cons x l ih => rw [esC_cons, List.length_append, ih, cells_length, List.length_cons]; omega
theorem esC_take (l : List Ent) (i : Nat) : (esC l).take (i * 10) = esC (l.take i) := by
  by_cases h : i ≤ l.length
  · conv => lhs; rw [← List.take_append_drop i l, esC_append]
    rw [List.take_append_of_le_length (by rw [esC_length, List.length_take]; omega), List.take_of_length_le (by rw [esC_length, List.length_take]; omega)]
  · rw [List.take_of_length_le (by rw [esC_length]; omega), List.take_of_length_le (by omega)]
theorem esC_drop (l : List Ent) (i : Nat) : (esC l).drop (i * 10) = esC (l.drop i) := by
  by_cases h : i ≤ l.length
  · conv => lhs; rw [← List.take_append_drop i l, esC_append]
    rw [List.drop_append, List.drop_of_length_le (by rw [esC_length, List.length_take]; omega), esC_length, List.length_take, show i * 10 - min i l.length * 10 = 0 by omega]
    simp
  · rw [List.drop_of_length_le (by rw [esC_length]; omega), List.drop_of_length_le (by omega)]; rfl
theorem esC_get (l : List Ent) (i j : Nat) (hi : i < l.length) (hj : j < 10) : (esC l)[i * 10 + j]? = l[i].cells[j]? := by
  have h := congrArg (·[j]?) (esC_drop l i)
  simp only [List.getElem?_drop] at h
  rw [h, List.drop_eq_getElem_cons hi, esC_cons, List.getElem?_append_left (by rw [cells_length]; omega)]
theorem esC_one (l : List Ent) : (esC l).all Value.oneCell' = true := by
  induction l with
  | nil => rfl
  | cons x l ih => rw [esC_cons, List.all_append, ih, Bool.and_true]; rfl
theorem esC_src {G : GH} {μ : OH} {A : Option Addr} {c : Nat} {l : List Ent} (hsome : 0 < l.length → A.isSome = true) (hcp : ∀ i (h : i < l.length), CellsG G ((adr A).add (i * 10)) l[i].cells) : Go.Vx.Src G μ (.slice A l.length c) l.length 10 (esC l) := by
  refine ⟨esC_length l, A, c, rfl, fun h => ?_⟩
  obtain ⟨a, rfl⟩ := Option.isSome_iff_exists.1 (hsome h)
  refine ⟨a, rfl, CellsAt.frozen fun p v hv => ?_⟩
  have hp : p < l.length * 10 := by rw [← esC_length]; exact (List.getElem?_eq_some_iff.1 hv).1
  have e : p = p / 10 * 10 + p % 10 := by omega
  rw [e, ← adr_add]
  rw [e, esC_get l (p / 10) (p % 10) (by omega) (by omega)] at hv
  exact hcp (p / 10) (by omega) _ _ hv
theorem es_of_grow {v : Value} {l : List Ent} {ν : OH} (h : Grow 50 10 v l.length (esC l) ν) {G' : GH} (hG : ∀ b o, (b, o) ∈ ν → G' b = some o) (hok : ∀ x ∈ l, x.ok) : Es G' v l := by
  refine h.sl hG (by simp) fun i x cs hx hc => ?_
  rw [List.getElem?_map, hx] at hc
  simp only [Option.map_some, Option.some.injEq] at hc
  subst hc
  exact ⟨rfl, rfl, hok x (List.mem_of_getElem? hx)⟩
abbrev zE : Value := .agg #[.int .i64 0, .int .i64 0, .int .i64 0, .int .i64 0, .int .i64 0, .int .i64 0, .string ByteArray.empty, .string ByteArray.empty, .string ByteArray.empty, .int .i64 0]
theorem entClone_s {G : GH} {l : List Ent} {sv : Value} (hs : Es G sv l) (hn : l.length ≤ 40) : Con Tryd.prog 85 #[sv] G [] (fun r G' μ' => G' = G ∧ Grow 50 10 r l.length (esC l) μ') := by
  obtain ⟨A, c, rfl, hlc, hcm, hsome, hcp, hcb, hcc, hok⟩ := esOpen hs
  simp only [maxLen] at hcm
  refine v_enter Tryd.func85 rfl Tryd.ntmps85 rfl (fun B => ?_)
  cases A with
  | none =>
    have h0 : l.length = 0 := by
      by_cases h : 0 < l.length
      · cases hsome h
      · omega
    have h1 : l = [] := List.eq_nil_of_length_eq_zero h0
    subst h1
    repeat' (first | apply v_seq | apply v_region | apply v_nil | (apply v_pure; (case hop => first | (apply p_move <;> rfl) | (apply p_assign <;> rfl) | (apply p_eqNilSlice <;> rfl)); (case hd => rfl)) | (apply v_condT; (case hc => rfl)) | fail)
    refine v_ret [] (outsA1 rfl rfl) (by repeat (first | exact List.Sublist.refl _ | fail)) ?_
    exact ⟨rfl, Grow.nil _ _⟩
  | some a =>
    have hsrc := fun μ => esC_src (μ := μ) (c := c) hsome hcp
    repeat' (first | apply v_seq | apply v_region | apply v_nil | apply v_skip | (apply v_pure; (case hop => first | (apply p_move <;> rfl) | (apply p_assign <;> rfl) | (apply p_eqNilSlice <;> rfl)); (case hd => rfl)) | (apply v_condF; (case hc => rfl)) | (apply v_buildSlice; (case hz => rfl); (case hi => rfl); (case hv => (simp only [List.map_cons, List.map_nil]; repeat (first | with_reducible exact evs_nil | fail))); (case hp => (first | with_reducible exact pk_nil | fail)); (case hb => rfl); (case hd => rfl); intro b) | fail)
    refine v_append (e := 50) (agg := true) (sz := 10) (bytes := 104) (zero := zE) rfl (by omega) rfl rfl Grow.empty (List.Perm.refl _) (hsrc _) (esC_one l) (by omega) (by simp only [maxLen]; omega) rfl fun v' ν' hg => ?_
    repeat' (first | apply v_nil | (apply v_pure; (case hop => first | (apply p_assign <;> rfl) | fail); (case hd => rfl)) | fail)
    refine v_ret _ (outsA1 rfl rfl) (by repeat (first | exact List.Sublist.refl _ | fail)) ?_
    refine ⟨rfl, ?_⟩
    simpa using hg
theorem p_sliceB {σ : Env} {ty t e : TypeId} {agg : Bool} {sz bytes : Nat} {zero : Value} {x lo : Operand} {b o n c : Nat} {k : IntKind} {z : Int} [Ty Tryd.prog t (.slice e)] [Lay Tryd.prog e agg sz bytes zero] (m : Nat) (hx : Env.ev σ x = some (.slice (some ⟨b, o, none⟩) n c)) (hl : Env.ev σ lo = some (.int k z)) (hz : z = (m : Nat)) (h1 : m ≤ n) (h2 : n ≤ c) (h3 : m < c) :
    PureOp Tryd.prog (.slice t x (some lo) none none) ty σ (.slice (some ⟨b, o + m * sz, none⟩) (n - m) (c - m)) := by
  subst hz
  have h := p_sliceL (P := Tryd.prog) (ty := ty) (t := t) (e := e) (agg := agg) (sz := sz) (bytes := bytes) (zero := zero) hx hl (by omega) (by omega) h2
  simp only [Int.toNat_natCast] at h
  rw [if_neg (by omega), Option.map_some, add_mk] at h
  exact h
theorem p_sliceHB {σ : Env} {ty t e : TypeId} {agg : Bool} {sz bytes : Nat} {zero : Value} {x hi : Operand} {A : Option Addr} {n c : Nat} {k : IntKind} {z : Int} [Ty Tryd.prog t (.slice e)] [Lay Tryd.prog e agg sz bytes zero] (m : Nat) (hx : Env.ev σ x = some (.slice A n c)) (hl : Env.ev σ hi = some (.int k z)) (hz : z = (m : Nat)) (h1 : m ≤ c) :
    PureOp Tryd.prog (.slice t x none (some hi) none) ty σ (.slice A m c) := by
  subst hz
  exact p_sliceH (P := Tryd.prog) (ty := ty) (t := t) (e := e) (agg := agg) (sz := sz) (bytes := bytes) (zero := zero) hx hl (by omega) (by omega)
instance : Overl Tryd.prog 152 50 4 := ⟨_, Tryd.underlying40, fun args w => run_callFunc_extern Tryd.func152 (by kernel_rfl) (by kernel_rfl) (by kernel_rfl) (e := Extern.SlicesOverlaps.overlaps #[40, 40] #[4]) (by kernel_rfl) args w⟩
theorem zeros_length (q : Nat) : (Builtin.zeroCells zE.cells q).toList.length = q * 10 := by rw [Array.length_toList, size_zeroCells]; rfl
/-- What the two copies leave in a row of zeros. -/
theorem ins_row (p z sp a t : List Value) (hz : z.length = a.length + t.length) (h : t.length = z.length - a.length) : over (over (p ++ z ++ sp) p.length a) (p.length + a.length) t = p ++ a ++ t ++ sp := by
  have e1 : over (p ++ z ++ sp) p.length a = p ++ a ++ z.drop a.length ++ sp := by
    unfold over
    rw [List.append_assoc p z sp, List.take_left, ← List.drop_drop, List.drop_left, List.drop_append_of_le_length (by omega)]
    simp
  rw [e1]
  unfold over
  rw [show p.length + a.length = (p ++ a).length by simp, List.append_assoc (p ++ a), List.take_left, ← List.drop_drop, List.drop_left, List.drop_append_of_le_length (by rw [List.length_drop]; omega), List.drop_of_length_le (l := List.drop a.length z) (by rw [List.length_drop]; omega)]
  simp
theorem ins_shift (p t sp a : List Value) (h : a.length ≤ sp.length) : over (over (p ++ t ++ sp) (p.length + a.length) t) p.length a = p ++ a ++ t ++ sp.drop a.length := by
  have e1 : over (p ++ t ++ sp) (p.length + a.length) t = (p ++ (t ++ sp).take a.length) ++ (t ++ sp.drop a.length) := by
    unfold over
    rw [List.append_assoc p t sp, List.take_append, List.take_of_length_le (by omega), show p.length + a.length - p.length = a.length by omega, show p.length + a.length + t.length = p.length + (t.length + a.length) by omega, ← List.drop_drop, List.drop_left, ← List.drop_drop, List.drop_left]
    simp
  have e2 : ((t ++ sp).take a.length).length = a.length := by rw [List.length_take, List.length_append]; omega
  rw [e1]
  unfold over
  rw [List.append_assoc p, List.take_left, show p.length + a.length = (p ++ (t ++ sp).take a.length).length by rw [List.length_append, e2], ← List.append_assoc p, List.drop_left]
  simp
theorem entInsert_s {G : GH} {l : List Ent} {v : Value} {ν : OH} (x : Ent) (b2 i : Nat) (hg : Grow 50 10 v l.length (esC l) ν) (hi : i ≤ l.length) (hn : l.length ≤ 40) :
    Con Tryd.prog 119 #[v, .int .i64 i, .slice (some ⟨b2, 0, none⟩) 1 1] G (ν ++ [(b2, .cells x.cells.toArray 50 (0, 0))]) (fun r G' μ' => G' = G ∧ Grow 50 10 r (l.length + 1) (esC (l.take i ++ x :: l.drop i)) μ') := by
  by_cases hin : i = l.length
  · subst hin
    obtain ⟨A, c, rfl, hc1, hc2⟩ := hg.shape
    simp only [maxLen] at hc2
    refine v_enter Tryd.func119 rfl Tryd.ntmps119 rfl (fun B => ?_)
    repeat' (first | apply v_seq | apply v_region | apply v_nil | apply v_skip | (apply v_pure; (case hop => first | (apply p_move <;> rfl) | (apply p_eqs <;> rfl) | (apply p_eq <;> rfl) | (apply p_assign <;> rfl) | (apply p_lenSlice <;> rfl) | (apply p_sliceL; (case hx => rfl); (case hl => rfl); all_goals omega) | fail); (case hd => rfl)) | (apply v_condT; (case hc => rfl)) | (apply v_cond; (case hc => rfl); all_goals (intro h; (try simp only [reduceCtorEq, dec_true, dec_false, decide_eq_true_eq, decide_eq_false_iff_not, Bool.not_eq_true', Bool.not_eq_false', Option.isNone_iff_eq_none, beq_true, beq_false, beq_iff_eq, beq_eq_false_iff_ne, ne_eq, decide_eq_decide, Bool.not_eq_true, Bool.not_eq_false, Decidable.not_not] at h); first | (exfalso; omega) | skip)) | fail)
    refine v_append (e := 50) (agg := true) (sz := 10) (bytes := 104) (zero := zE) rfl (by omega) rfl rfl hg (List.Perm.refl _) (m' := 1) (us := x.cells) (Src.own (e := 50) (by simp [Has]) rfl) rfl (by omega) (by simp only [maxLen]; omega) rfl fun v' ν' hg' => ?_
    repeat' (first | apply v_nil | (apply v_pure; (case hop => first | (apply p_assign <;> rfl) | fail); (case hd => rfl)) | fail)
    refine v_ret ν' (outsA1 rfl rfl) (by repeat (first | exact List.sublist_append_left _ _ | fail)) ?_
    refine ⟨rfl, ?_⟩
    rw [List.take_length, List.drop_length, esC_append, esC_cons]
    simpa [esC] using hg'
  · have hlt : i < l.length := by omega
    obtain ⟨hxl, ⟨rfl, h0, rfl⟩ | ⟨b, cap, spare, rfl, rfl, hc1, hc2, hc3⟩⟩ := hg
    · omega
    simp only [maxLen] at hc2
    simp only [List.singleton_append]
    rw [List.length_append, esC_length] at hc3
    by_cases hroom : cap < l.length + 1
    · refine v_enter Tryd.func119 rfl Tryd.ntmps119 rfl (fun B => ?_)
      repeat' (first | (apply v_pure; (case hop => (apply p_sliceB i; (case hx => rfl); (case hl => rfl); (case hz => omega); (case h1 => omega); (case h2 => omega); (case h3 => omega))); (case hd => rfl)) | (apply v_pure; (case hop => (apply p_sliceHB i; (case hx => rfl); (case hl => rfl); (case hz => omega); (case h1 => omega))); (case hd => rfl)) | apply v_seq | apply v_region | apply v_nil | apply v_skip | (apply v_pure; (case hop => first | (apply p_move <;> rfl) | (apply p_eq <;> rfl) | (apply p_gt <;> rfl) | (apply p_assign <;> rfl) | (apply p_lenSlice <;> rfl) | (apply p_add; (case hx => rfl); (case hy => rfl); (case h => omega)) | (apply p_sub; (case hx => rfl); (case hy => rfl); (case h => omega)) | (apply p_capSlice <;> rfl) | fail); (case hd => rfl)) | (apply v_cond; (case hc => rfl); all_goals (intro h; (try simp only [reduceCtorEq, dec_true, dec_false, decide_eq_true_eq, decide_eq_false_iff_not, Bool.not_eq_true', Bool.not_eq_false', Option.isNone_iff_eq_none, beq_true, beq_false, beq_iff_eq, beq_eq_false_iff_ne, ne_eq, decide_eq_decide, Bool.not_eq_true, Bool.not_eq_false, Decidable.not_not] at h); first | (exfalso; omega) | skip)) | fail)
      refine v_appendZ (e := 50) (agg := true) (sz := 10) (bytes := 104) (zero := zE) (q := l.length + 1 - i) (xs := esC (l.take i)) rfl (by omega) rfl rfl (by omega) ?_ (by omega) (by omega) (by omega) (by simp only [maxLen]; omega) rfl fun b3 c3 sp3 hd1 hd2 hd3 => ?_
      · refine Src.ownAt (vs := esC l ++ spare) (e := 50) (by simp [Has]) ?_ (by rw [esC_length, List.length_take]; omega)
        rw [List.drop_zero, List.take_append_of_le_length (by omega), esC_take]
      simp only [maxLen] at hd2
      have zl := zeros_length (l.length + 1 - i)
      have tl : (esC (l.take i)).length = i * 10 := by rw [esC_length, List.length_take]; omega
      repeat' (first | (apply v_pure; (case hop => (apply p_sliceB i; (case hx => rfl); (case hl => rfl); (case hz => omega); (case h1 => omega); (case h2 => omega); (case h3 => omega))); (case hd => rfl)) | apply v_seq | apply v_region | apply v_nil | (apply v_pure; (case hop => first | (apply p_move <;> rfl) | (apply p_assign <;> rfl) | fail); (case hd => rfl)) | fail)
      refine v_copy (e := 50) (agg := true) (sz := 10) (bytes := 104) (zero := zE) (q := 1) rfl rfl (show min 1 _ = 1 by omega) (by omega) (us := x.cells) (Src.own (e := 50) (by simp [Has]) rfl) (by (repeat (first | exact List.Mem.head _ | fail))) rfl (by simp only [List.length_append, zl, tl]; omega) rfl (by (repeat (first | exact Upd.here _ _ | fail))) rfl ?_
      repeat' (first | apply v_seq | apply v_nil | fail)
      have hus : ((esC l ++ spare).drop (0 + i * 10)).take ((l.length - i) * 10) = esC (l.drop i) := by
        rw [Nat.zero_add, List.drop_append_of_le_length (by omega), esC_drop, List.take_append_of_le_length (by rw [esC_length, List.length_drop]; omega), List.take_of_length_le (by rw [esC_length, List.length_drop]; omega)]
      have dl : (esC (l.drop i)).length = (l.length - i) * 10 := by rw [esC_length, List.length_drop]
      refine d_start [] (by kernel_rfl) (by kernel_rfl) (by intro e he; first | (simp at he ⊢; try omega)) ?_
      all_goals (first | (apply d_take 0; (case hi => rfl); (case hop => first | (apply PureOp.read; apply p_move <;> rfl)); (case hf => kernel_rfl); (case hr => kernel_rfl); (case hd => rfl)) | fail)
      all_goals (first | (apply d_take 1; (case hi => rfl); (case hop => first | (apply PureOp.read; apply p_move <;> rfl)); (case hf => kernel_rfl); (case hr => kernel_rfl); (case hd => rfl)) | fail)
      all_goals (first | (apply d_take 2; (case hi => rfl); (case hop => first | (apply PureOp.read; apply p_move <;> rfl)); (case hf => kernel_rfl); (case hr => kernel_rfl); (case hd => rfl)) | fail)
      all_goals (first | (apply d_take 3; (case hi => rfl); (case hop => first | (apply PureOp.read; apply p_add; (case hx => rfl); (case hy => rfl); (case h => omega))); (case hf => kernel_rfl); (case hr => kernel_rfl); (case hd => rfl)) | fail)
      all_goals (first | (apply d_take 4; (case hi => rfl); (case hop => first | ((apply PureOp.read; apply p_sliceB (i + 1); (case hx => rfl); (case hl => rfl); (case hz => omega); (case h1 => omega); (case h2 => omega); (case h3 => omega))) | fail); (case hf => kernel_rfl); (case hr => kernel_rfl); (case hd => rfl)) | fail)
      all_goals (first | (apply d_take 5; (case hi => rfl); (case hop => first | (apply PureOp.read; apply p_move <;> rfl)); (case hf => kernel_rfl); (case hr => kernel_rfl); (case hd => rfl)) | fail)
      all_goals (first | (apply d_take 6; (case hi => rfl); (case hop => first | (apply PureOp.read; apply p_move <;> rfl)); (case hf => kernel_rfl); (case hr => kernel_rfl); (case hd => rfl)) | fail)
      all_goals (first | (apply d_take 7; (case hi => rfl); (case hop => first | ((apply PureOp.read; apply p_sliceB i; (case hx => rfl); (case hl => rfl); (case hz => omega); (case h1 => omega); (case h2 => omega); (case h3 => omega))) | fail); (case hf => kernel_rfl); (case hr => kernel_rfl); (case hd => rfl)) | fail)
      all_goals (first | ((apply d_copy 8 (e := 50) (agg := true) (sz := 10) (bytes := 104) (zero := zE) (m' := l.length - i) (q := l.length - i) (us := esC (l.drop i)); (case hi => rfl); (case hr => kernel_rfl);  (case hT => infer_instance); (case hL => infer_instance); (case hy => rfl); (case hx => rfl); (case hq => (show min _ _ = _); omega); (case hm => omega); (case hsrc => exact Src.ownAt (vs := esC l ++ spare) (e := 50) (by (repeat (first | exact List.Mem.head _ | apply List.Mem.tail))) hus dl); (case hb => (repeat (first | exact List.Mem.head _ | fail))); (case h1 => rw [List.take_of_length_le (by omega)]; exact esC_one _); (case hfit => simp only [over, List.length_append, List.length_take, List.length_drop, zl, tl, cells_length]; omega); (case hov => rfl); (case hu => (repeat (first | exact Upd.here _ _ | fail))); (case hd => rfl); (case hν' => intro e he; cases he))) | fail)
      all_goals (apply d_done; (case hr => kernel_rfl))
      repeat' (first | apply v_seq | apply v_region | apply v_nil | (apply v_pure; (case hop => first | (apply p_move <;> rfl) | (apply p_assign <;> rfl) | fail); (case hd => rfl)) | fail)
      refine v_ret [(b3, _)] (outsA1 rfl rfl) (by repeat (first | exact List.nil_sublist _ | apply List.Sublist.cons_cons | fail)) ?_
      refine ⟨rfl, ?_⟩
      have el : (esC (l.take i ++ x :: l.drop i)) = esC (l.take i) ++ x.cells ++ esC (l.drop i) := by rw [esC_append, esC_cons, List.append_assoc]
      have e := ins_row (esC (l.take i)) (Builtin.zeroCells zE.cells (l.length + 1 - i)).toList sp3 x.cells (esC (l.drop i)) (by rw [zl, dl, cells_length]; omega) (by rw [zl, dl, cells_length]; omega)
      rw [tl, cells_length] at e
      rw [show 0 + (i + 1) * 10 = i * 10 + 10 by omega, show 0 + i * 10 = i * 10 by omega, List.take_of_length_le (l := esC (l.drop i)) (by omega), show x.cells.take (1 * 10) = x.cells from rfl, e, show i + (l.length + 1 - i) = l.length + 1 by omega]
      refine ⟨by rw [el, List.length_append, List.length_append, tl, dl, cells_length]; omega, .inr ⟨b3, c3, sp3, rfl, by rw [el], by omega, by simp only [maxLen]; omega, ?_⟩⟩
      simp only [List.length_append, zl, tl] at hd3
      rw [el]
      simp only [List.length_append, tl, dl, cells_length]
      omega
    · refine v_enter Tryd.func119 rfl Tryd.ntmps119 rfl (fun B => ?_)
      repeat' (first | (apply v_pure; (case hop => (apply p_sliceB i; (case hx => rfl); (case hl => rfl); (case hz => omega); (case h1 => omega); (case h2 => omega); (case h3 => omega))); (case hd => rfl)) | (apply v_pure; (case hop => (apply p_sliceB (i + 1); (case hx => rfl); (case hl => rfl); (case hz => omega); (case h1 => omega); (case h2 => omega); (case h3 => omega))); (case hd => rfl)) | (apply v_pure; (case hop => (apply p_sliceHB (l.length + 1); (case hx => rfl); (case hl => rfl); (case hz => omega); (case h1 => omega))); (case hd => rfl)) | apply v_seq | apply v_region | apply v_nil | apply v_skip | (apply v_pure; (case hop => first | (apply p_move <;> rfl) | (apply p_eq <;> rfl) | (apply p_gt <;> rfl) | (apply p_assign <;> rfl) | (apply p_lenSlice <;> rfl) | (apply p_add; (case hx => rfl); (case hy => rfl); (case h => omega)) | (apply p_capSlice <;> rfl) | fail); (case hd => rfl)) | (apply v_cond; (case hc => rfl); all_goals (intro h; (try simp only [reduceCtorEq, dec_true, dec_false, decide_eq_true_eq, decide_eq_false_iff_not, Bool.not_eq_true', Bool.not_eq_false', Option.isNone_iff_eq_none, beq_true, beq_false, beq_iff_eq, beq_eq_false_iff_ne, ne_eq, decide_eq_decide, Bool.not_eq_true, Bool.not_eq_false, Decidable.not_not] at h); first | (exfalso; omega) | skip)) | fail)
      refine v_ne (b' := b2) (by simp) fun hne => ?_
      refine v_apart (e := 50) (agg := true) (sz := 10) (bytes := 104) (zero := zE) rfl rfl (by (repeat (first | exact List.Mem.head _ | apply List.Mem.tail))) (by (repeat (first | exact List.Mem.head _ | fail))) hne (fun h => by have := congrArg List.length h; rw [List.length_append, esC_length, List.length_nil] at this; omega) rfl ?_
      repeat' (first | apply v_seq | apply v_nil | (apply v_pure; (case hop => first | (apply p_not <;> rfl) | fail); (case hd => rfl)) | (apply v_condT; (case hc => rfl)) | fail)
      have tl : (esC (l.take i)).length = i * 10 := by rw [esC_length, List.length_take]; omega
      have dl : (esC (l.drop i)).length = (l.length - i) * 10 := by rw [esC_length, List.length_drop]
      have hus : (((esC l ++ spare).drop (0 + i * 10)).take ((l.length + 1 - i) * 10)).take ((l.length - i) * 10) = esC (l.drop i) := by
        rw [List.take_take, Nat.zero_add, Nat.min_eq_left (by omega), List.drop_append_of_le_length (by omega), esC_drop, List.take_append_of_le_length (by omega), List.take_of_length_le (by omega)]
      refine d_start [] (by kernel_rfl) (by kernel_rfl) (by intro e he; first | (simp at he ⊢; try omega)) ?_
      all_goals (first | (apply d_take 0; (case hi => rfl); (case hop => first | (apply PureOp.read; apply p_move <;> rfl)); (case hf => kernel_rfl); (case hr => kernel_rfl); (case hd => rfl)) | fail)
      all_goals (first | (apply d_take 1; (case hi => rfl); (case hop => first | (apply PureOp.read; apply p_move <;> rfl)); (case hf => kernel_rfl); (case hr => kernel_rfl); (case hd => rfl)) | fail)
      all_goals (first | (apply d_take 2; (case hi => rfl); (case hop => first | (apply PureOp.read; apply p_move <;> rfl)); (case hf => kernel_rfl); (case hr => kernel_rfl); (case hd => rfl)) | fail)
      all_goals (first | (apply d_take 3; (case hi => rfl); (case hop => first | (apply PureOp.read; apply p_add; (case hx => rfl); (case hy => rfl); (case h => omega))); (case hf => kernel_rfl); (case hr => kernel_rfl); (case hd => rfl)) | fail)
      all_goals (first | (apply d_take 4; (case hi => rfl); (case hop => first | ((apply PureOp.read; apply p_sliceB (i + 1); (case hx => rfl); (case hl => rfl); (case hz => omega); (case h1 => omega); (case h2 => omega); (case h3 => omega))) | fail); (case hf => kernel_rfl); (case hr => kernel_rfl); (case hd => rfl)) | fail)
      all_goals (first | (apply d_take 5; (case hi => rfl); (case hop => first | (apply PureOp.read; apply p_move <;> rfl)); (case hf => kernel_rfl); (case hr => kernel_rfl); (case hd => rfl)) | fail)
      all_goals (first | (apply d_take 6; (case hi => rfl); (case hop => first | (apply PureOp.read; apply p_move <;> rfl)); (case hf => kernel_rfl); (case hr => kernel_rfl); (case hd => rfl)) | fail)
      all_goals (first | (apply d_take 7; (case hi => rfl); (case hop => first | ((apply PureOp.read; apply p_sliceB i; (case hx => rfl); (case hl => rfl); (case hz => omega); (case h1 => omega); (case h2 => omega); (case h3 => omega))) | fail); (case hf => kernel_rfl); (case hr => kernel_rfl); (case hd => rfl)) | fail)
      all_goals (first | ((apply d_copy 8 (e := 50) (agg := true) (sz := 10) (bytes := 104) (zero := zE) (m' := l.length + 1 - i) (q := l.length - i) (us := ((esC l ++ spare).drop (0 + i * 10)).take ((l.length + 1 - i) * 10)); (case hi => rfl); (case hr => kernel_rfl);  (case hT => infer_instance); (case hL => infer_instance); (case hy => rfl); (case hx => rfl); (case hq => (show min _ _ = _); omega); (case hm => omega); (case hsrc => exact Src.ownAt (vs := esC l ++ spare) (e := 50) (by (repeat (first | exact List.Mem.head _ | fail))) rfl (by simp only [List.length_take, List.length_drop, List.length_append, esC_length]; omega)); (case hb => (repeat (first | exact List.Mem.head _ | fail))); (case h1 => rw [hus]; exact esC_one _); (case hfit => rw [List.length_append, esC_length]; omega); (case hov => rw [hus]); (case hu => (repeat (first | exact Upd.here _ _ | fail))); (case hd => rfl); (case hν' => intro e he; cases he))) | fail)
      all_goals (apply d_done; (case hr => kernel_rfl))
      repeat' (first | (apply v_pure; (case hop => (apply p_sliceB i; (case hx => rfl); (case hl => rfl); (case hz => omega); (case h1 => omega); (case h2 => omega); (case h3 => omega))); (case hd => rfl)) | apply v_seq | apply v_region | (apply v_pure; (case hop => first | (apply p_move <;> rfl) | fail); (case hd => rfl)) | fail)
      refine v_copy (e := 50) (agg := true) (sz := 10) (bytes := 104) (zero := zE) (q := 1) rfl rfl (show min 1 _ = 1 by omega) (by omega) (us := x.cells) (Src.own (e := 50) (by simp [Has]) rfl) (by (repeat (first | exact List.Mem.head _ | fail))) rfl (by rw [over_length (by rw [List.length_append, hxl, dl]; omega), List.length_append, hxl]; omega) rfl (by (repeat (first | exact Upd.here _ _ | fail))) rfl ?_
      repeat' (first | apply v_seq | apply v_region | apply v_nil | (apply v_pure; (case hop => first | (apply p_move <;> rfl) | (apply p_assign <;> rfl) | fail); (case hd => rfl)) | fail)
      refine v_ret [(b, _)] (outsA1 rfl rfl) (by repeat (first | exact List.nil_sublist _ | apply List.Sublist.cons_cons | fail)) ?_
      refine ⟨rfl, ?_⟩
      have el : (esC (l.take i ++ x :: l.drop i)) = esC (l.take i) ++ x.cells ++ esC (l.drop i) := by rw [esC_append, esC_cons, List.append_assoc]
      have e := ins_shift (esC (l.take i)) (esC (l.drop i)) spare x.cells (by rw [cells_length]; omega)
      rw [tl, cells_length, ← esC_append, List.take_append_drop] at e
      rw [show 0 + (i + 1) * 10 = i * 10 + 10 by omega, show 0 + i * 10 = i * 10 by omega, show x.cells.take (1 * 10) = x.cells from rfl, e]
      refine ⟨by rw [el, List.length_append, List.length_append, tl, dl, cells_length]; omega, .inr ⟨b, cap, spare.drop 10, rfl, by rw [el], by omega, by simp only [maxLen]; omega, ?_⟩⟩
      rw [el]
      simp only [List.length_append, List.length_drop, tl, dl, cells_length]
      omega
end Go.Proofs.YtnoiahlpmgbhfaaDoor
/-
  entry (layer 12), the sixth part: With; the example.
-/
set_option linter.unusedSimpArgs false
set_option linter.unusedVariables false
namespace Go.Proofs.YtnoiahlpmgbhfaaDoor
open Go.Vx Go.ChangeShapes Go.WideShapes Go.ChangeAt Go.RowKit
/-- Entries with another one. -/
noncomputable def withL (l : List Ent) (x : Ent) : List Ent := if hitB l x.index = true then l.set (placeN l x.index) x else l.take (placeN l x.index) ++ x :: l.drop (placeN l x.index)
theorem hitB_lt {l : List Ent} {n : Int} (h : hitB l n = true) : placeN l n < l.length := by
  unfold hitB at h
  by_cases h' : placeN l n < l.length
  · exact h'
  · rw [dif_neg h'] at h; cases h
theorem placeN_le (l : List Ent) (n : Int) : placeN l n ≤ l.length := List.countP_le_length
theorem withL_len (l : List Ent) (x : Ent) : (withL l x).length = if hitB l x.index = true then l.length else l.length + 1 := by
  unfold withL
  have := placeN_le l x.index
  split
  · simp
  · simp; omega
theorem esC_set (l : List Ent) (x : Ent) (sp : List Value) (p : Nat) (hp : p < l.length) : over (esC l ++ sp) (p * 10) x.cells = esC (l.set p x) ++ sp := by
  have e : l.set p x = l.take p ++ x :: l.drop (p + 1) := List.set_eq_take_append_cons_drop.trans (if_pos hp)
  have e1 : (esC l ++ sp).take (p * 10) = esC (l.take p) := by rw [List.take_append_of_le_length (by rw [esC_length]; omega), esC_take]
  have e2 : (esC l ++ sp).drop (p * 10 + x.cells.length) = esC (l.drop (p + 1)) ++ sp := by
    rw [cells_length, show p * 10 + 10 = (p + 1) * 10 by omega, List.drop_append_of_le_length (by rw [esC_length]; omega), esC_drop]
  rw [over, e1, e2, e, esC_append, esC_cons]
  simp
theorem with_s {G : GH} {l : List Ent} {sv : Value} (x : Ent) (hs : Es G sv l) (hr : RiseL l) (hn : l.length ≤ 40) : Con Tryd.prog 73 #[sv, .agg x.cells.toArray] G [] (fun r G' μ' => G' = G ∧ Grow 50 10 r (withL l x).length (esC (withL l x)) μ') := by
  have qp := place_s x.index hs hr
  have qc := entClone_s hs hn
  have hlp := placeN_le l x.index
  refine v_enter Tryd.func73 rfl Tryd.ntmps73 rfl (fun B => ?_)
  repeat' (first | apply v_seq | apply v_region | apply v_nil | (apply v_pure; (case hop => first | (apply p_move <;> rfl) | (apply p_assign <;> rfl) | (apply p_fieldAddrB <;> rfl) | (apply p_extract0 <;> rfl) | (apply p_extract1 <;> rfl) | fail); (case hd => rfl)) | (apply v_box (zs := x.cells); (case hx => rfl); (case hz => rfl); (case hd => rfl); intro bx) | (apply v_callJ (hs := qp); (case ha => rfl); (case hd => rfl)) | (apply v_read; (case hop => first | (apply r_load1; rfl; (apply Cell.own; (case h => (repeat (first | exact List.Mem.head _ | fail))); rfl)) | fail); (case hd => rfl)) | fail)
  refine v_call (μ1 := []) (μ2 := _) rfl qc (List.Perm.refl _) rfl ?_
  rintro r G' μ1 _ ⟨rfl, hg⟩
  clear qp qc
  cases hh : hitB l x.index
  · have el : withL l x = l.take (placeN l x.index) ++ x :: l.drop (placeN l x.index) := by rw [withL, if_neg (by rw [hh]; decide)]
    have ell : (withL l x).length = l.length + 1 := by rw [withL_len, if_neg (by rw [hh]; decide)]
    rw [ell, el]
    generalize placeN l x.index = p at *
    obtain ⟨A, c, rfl, hc1, hc2⟩ := hg.shape
    repeat' (first | apply v_seq | apply v_region | apply v_nil | apply v_skip | (apply v_pure; (case hop => first | (apply p_move <;> rfl) | (apply p_assign <;> rfl) | fail); (case hd => rfl)) | (apply v_condF; (case hc => rfl)) | (apply v_read; (case hop => first | (apply r_loadNo; (case hx => rfl); (case h => (repeat (first | exact List.Mem.head _ | apply List.mem_append_right))); (case hd => (repeat (first | with_reducible exact dt_nil | apply dt_here | fail))); (case hn => rfl)) | fail); (case hd => rfl)) | (apply v_buildSlice; (case hz => rfl); (case hi => rfl); (case hv => (simp only [List.map_cons, List.map_nil]; repeat (first | with_reducible exact evs_nil | (apply evs_cons; (case h1 => rfl))))); (case hp => (first | (apply pk_cons; (case hc => rfl); (case hs => rfl); (case h => (first | with_reducible exact pk_nil | fail)); (case he => (first | ((repeat (first | with_reducible exact ap_nil | apply ap_cons)); done) | fail))) | fail)); (case hb => rfl); (case hd => rfl); intro b) | fail)
    refine v_call (μ1 := μ1 ++ [(b, .cells x.cells.toArray 50 (0, 0))]) (μ2 := [(bx, .cells x.cells.toArray 50 (0, 0))]) rfl (entInsert_s x b p hg hlp hn) (show List.Perm ((b, Obj.cells x.cells.toArray 50 (0, 0)) :: (μ1 ++ [(bx, Obj.cells x.cells.toArray 50 (0, 0))])) _ from (by apply perm_of_count; intro p; simp only [List.countP_append, List.countP_cons, List.countP_nil, Nat.zero_add, Nat.add_zero]; try ac_rfl)) rfl ?_
    rintro r' G1 μ2 _ ⟨rfl, hg'⟩
    repeat' (first | apply v_nil | (apply v_pure; (case hop => first | (apply p_assign <;> rfl) | fail); (case hd => rfl)) | fail)
    refine v_ret μ2 (outsA1 rfl rfl) (by repeat (first | exact List.sublist_append_left _ _ | fail)) ?_
    exact ⟨rfl, hg'⟩
  · have el : withL l x = l.set (placeN l x.index) x := by rw [withL, if_pos hh]
    have hlt := hitB_lt hh
    rw [el, List.length_set]
    generalize placeN l x.index = p at *
    obtain ⟨hxl, ⟨rfl, h0, rfl⟩ | ⟨b1, cap, spare, rfl, rfl, hc1, hc2, hc3⟩⟩ := hg
    · omega
    simp only [maxLen] at hc2
    simp only [List.singleton_append]
    rw [List.length_append, esC_length] at hc3
    repeat' (first | apply v_seq | apply v_region | apply v_nil | (apply v_pure; (case hop => first | (apply p_move <;> rfl) | (apply p_assign <;> rfl) | (apply p_indexAddr; (case hx => rfl); (case hi => rfl); (case h0 => omega); (case h => omega)) | fail); (case hd => rfl)) | (apply v_condT; (case hc => rfl)) | (apply v_read; (case hop => first | (apply r_loadNo; (case hx => rfl); (case h => (repeat (first | exact List.Mem.head _ | apply List.Mem.tail | fail))); (case hd => (repeat (first | with_reducible exact dt_nil | apply dt_here | fail))); (case hn => rfl)) | fail); (case hd => rfl)) | fail)
    refine v_store (agg := true) (sz := 10) (bytes := 104) (zero := zE) (b := b1) (i := p * 10) (us := x.cells) (vs' := esC (l.set p x) ++ spare) (show some (Value.pointer (some ((⟨b1, 0, none⟩ : Addr).add (p * 10)))) = _ by rw [add_mk, Nat.zero_add]) rfl rfl rfl rfl (by (repeat (first | exact List.Mem.head _ | fail))) (by rw [cells_length, List.length_append, hxl]; omega) (esC_set l x spare p hlt) (by (repeat (first | exact Upd.here _ _ | fail))) ?_
    repeat' (first | apply v_seq | apply v_region | apply v_nil | (apply v_pure; (case hop => first | (apply p_move <;> rfl) | (apply p_assign <;> rfl) | fail); (case hd => rfl)) | fail)
    refine v_ret [(b1, _)] (outsA1 rfl rfl) (by repeat (first | exact List.nil_sublist _ | apply List.Sublist.cons_cons | fail)) ?_
    exact ⟨rfl, by rw [esC_length, List.length_set], .inr ⟨b1, cap, spare, rfl, rfl, hc1, by simp only [maxLen]; omega, by rw [List.length_append, esC_length, List.length_set]; omega⟩⟩
/-! ### The example -/
def exC : Cm := ⟨1, 0, 0, ByteArray.empty, ByteArray.empty, ByteArray.empty, 0⟩
def exE (i : Int) : Ent := ⟨i, 0, 0, exC⟩
theorem exOne (i : Int) (h : 1 ≤ i ∧ i ≤ 9) : oneI (exE i) = 0 := by
  rw [oneI, if_neg]
  · show cmdI exC = 0
    rw [cmdI_eq]
    simp [cmdE, exC]
  · rintro (h' | h' | h')
    · simp only [exE] at h'; omega
    · simp only [exE] at h'; omega
    · exact h' (.inl ⟨rfl, rfl⟩)
theorem exE_ok (i : Int) (h : i = 1 ∨ i = 3 ∨ i = 4) : (exE i).ok := by
  obtain rfl | rfl | rfl := h
  all_goals
    refine ⟨by decide, by decide, by decide, ?_⟩
    refine ⟨?_, ?_, ?_, ?_, ?_, ?_, ?_⟩ <;> decide
theorem exPlace : placeN [exE 1, exE 4] (exE 3).index = 1 := by simp [placeN, exE]
theorem exHit : hitB [exE 1, exE 4] (exE 3).index = false := by
  unfold hitB
  simp only [exPlace]
  rw [dif_pos (by decide)]
  simp [exE]
theorem exWith : withL [exE 1, exE 4] (exE 3) = [exE 1, exE 3, exE 4] := by
  rw [withL, if_neg (by rw [exHit]; decide), exPlace]
  rfl
theorem exRise : RiseL [exE 1, exE 4] := by
  intro i j hj hij
  simp only [List.length_cons, List.length_nil] at hj
  obtain ⟨rfl, rfl⟩ : i = 0 ∧ j = 1 := by omega
  show (1 : Int) < 4
  omega
theorem exCheck : chkK [exE 1, exE 3, exE 4] 0 = 0 := by
  rw [chkK_next (by decide) (exOne 1 (by omega)) (fun h => by omega)]
  rw [chkK_next (k := 1) (by decide) (exOne 3 (by omega)) (fun h => by show ¬ (3 : Int) ≤ 1; omega)]
  rw [chkK_next (k := 2) (by decide) (exOne 4 (by omega)) (fun h => by show ¬ (4 : Int) ≤ 3; omega)]
  exact chkK_end (by decide)
theorem awake12_s {G : GH} (hT : TabsG G) : Con Tryd.prog 38 #[] G [] (Just (.bool true) G) := by
  apply Con.just
  refine v_enter Tryd.func38 rfl Tryd.ntmps38 rfl (fun B => ?_)
  repeat' (first | apply v_seq | apply v_region | apply v_nil | (apply v_pure; (case hop => first | (apply p_assign <;> rfl) | (apply p_build; (case hz => rfl); (case hv => (simp only [List.map_cons, List.map_nil]; repeat (first | with_reducible exact evs_nil | (apply evs_cons; (case h1 => rfl))))); (case hb => (apply bldL; repeat (first | exact bld_nil | (apply bld_cons; (case hpf => rfl); (case hc => rfl); (case hs => rfl); (case hl => rfl); (case ho => (first | ((repeat (first | with_reducible exact ov_nil | apply ov_cons | fail)); done) | fail))))))) | fail); (case hd => rfl)) | (apply v_read; (case hop => first | (apply r_loadNo; (case hx => rfl); (case h => (repeat (first | exact List.Mem.head _ | apply List.Mem.tail | fail))); (case hd => (repeat (first | with_reducible exact dt_nil | apply dt_here | fail))); (case hn => rfl)) | fail); (case hd => rfl)) | (apply v_buildSlice; (case hz => rfl); (case hi => rfl); (case hv => (simp only [List.map_cons, List.map_nil]; repeat (first | with_reducible exact evs_nil | (apply evs_cons; (case h1 => rfl))))); (case hp => (first | (apply pk_cons; (case hc => rfl); (case hs => rfl); (case h => (first | (apply pk_cons; (case hc => rfl); (case hs => rfl); (case h => (first | with_reducible exact pk_nil | fail)); (case he => (first | ((repeat (first | with_reducible exact ap_nil | apply ap_cons)); done) | fail))) | fail)); (case he => (first | ((repeat (first | with_reducible exact ap_nil | apply ap_cons)); done) | fail))) | fail)); (case hb => rfl); (case hd => rfl); intro b) | (apply v_alloc; (case hz => rfl); (case hd => rfl); intro b) | (apply v_store; (case hp => rfl); (case hx => rfl); (case hc => rfl); (case hsz => rfl); (case h1 => rfl); (case hb => (repeat (first | exact List.Mem.head _ | fail))); (case hfit => first | exact Nat.le_of_ble_eq_true rfl | fail); (case hov => (first | ((repeat (first | with_reducible exact ov_nil | apply ov_cons | fail)); done) | fail)); (case hu => repeat (first | exact Upd.here _ _ | fail))) | fail)
  refine v_freeze1 fun G1 hle1 hb1 => ?_
  have hs1 : Es G1 (.slice (some ⟨b, 0, none⟩) 2 2) [exE 1, exE 4] := by
    refine es_of_grow (l := [exE 1, exE 4]) (ν := [(b, .cells (esC [exE 1, exE 4]).toArray 50 (0, 0))]) (Grow.lit (m := 2) (by rw [esC_length]; rfl) (by simp [maxLen])) (fun b' o' hh => ?_) (fun x hx => ?_)
    · simp only [List.mem_singleton, Prod.mk.injEq] at hh
      obtain ⟨rfl, rfl⟩ := hh
      exact hb1
    · simp only [List.mem_cons, List.mem_nil_iff, or_false] at hx
      obtain rfl | rfl := hx
      · exact exE_ok 1 (by omega)
      · exact exE_ok 4 (by omega)
  have qw := with_s (exE 3) hs1 exRise (by decide)
  rw [exWith] at qw
  refine v_call (μ1 := []) (μ2 := _) rfl qw (List.Perm.refl _) rfl ?_
  rintro r G2 μ1 hle2 ⟨rfl, hg⟩
  refine v_frz μ1 (by repeat (first | exact PickA.here _ | fail)) ?_
  intro G3 hle3 hG3
  have hs3 : Es G3 r [exE 1, exE 3, exE 4] := es_of_grow hg hG3 (fun x hx => by
    simp only [List.mem_cons, List.mem_nil_iff, or_false] at hx
    obtain rfl | rfl | rfl := hx
    · exact exE_ok 1 (by omega)
    · exact exE_ok 3 (by omega)
    · exact exE_ok 4 (by omega))
  have qk := entCheck_s ((hT.le hle1).le hle3) hs3
  rw [exCheck] at qk
  obtain ⟨A, c, rfl, hlc, hcm, hsome, hcp, hcb, hcc, hok⟩ := esOpen hs3
  simp only [maxLen] at hcm
  have e1 : GH.cell? G3 (((adr A).add (((1 : Int)).toNat * 10)).add 0) = some (.int .i64 3) := esCell hcp 1 (by decide)
  clear hcp hcb hcc hok hs3 hg hG3 qw hs1 hb1
  generalize hlen : [exE 1, exE 3, exE 4].length = m at *
  obtain rfl : m = 3 := hlen.symm
  repeat' (first | apply v_seq | apply v_region | apply v_nil | (apply v_take; (case hg => rfl)) | (apply v_pure; (case hop => first | (apply p_move <;> rfl) | (apply p_eqs <;> rfl) | (apply p_assign <;> rfl) | (apply p_pickT <;> rfl) | (apply p_lenSlice <;> rfl) | (apply p_fieldAddrB <;> rfl) | (apply p_indexAddrS; (case hx => rfl); (case hi => rfl); (case h0 => omega); (case h => omega); (case hA => first | (apply_assumption; omega))) | fail); (case hd => rfl)) | (apply v_read; (case hop => (apply r_load1; rfl; exact Cell.frozen e1)); (case hd => rfl)) | (apply v_callJ (hs := qk); (case ha => rfl); (case hd => rfl)) | fail)
  refine v_ret [] (outsA1 rfl rfl) (by repeat (first | exact List.nil_sublist _ | fail)) ?_
  exact ⟨rfl, rfl⟩
end Go.Proofs.YtnoiahlpmgbhfaaDoor
/-
  entry (layer 12), the eighth part: rising indices, what is found, equal entries, equal lists.
-/
set_option linter.unusedSimpArgs false
set_option linter.unusedVariables false
namespace Go.Proofs.YtnoiahlpmgbhfaaDoor
open Go.Vx Go.ChangeShapes Go.WideShapes Go.ChangeAt Go.RowKit
theorem cm_feqD (d : Nat) (c c' : Cm) : FEq Tryd.prog (d + 1) c.cells c'.cells [⟨"Kind", 3, 0, false, "", "", 0⟩, ⟨"Client", 3, 1, false, "", "", 8⟩, ⟨"Seq", 3, 2, false, "", "", 16⟩, ⟨"Key", 9, 3, false, "", "", 24⟩, ⟨"Val", 9, 4, false, "", "", 40⟩, ⟨"Old", 9, 5, false, "", "", 56⟩, ⟨"Node", 3, 6, false, "", "", 72⟩] (dec (c.kind = c'.kind) && (dec (c.client = c'.client) && (dec (c.seq = c'.seq) && (dec (c.key = c'.key) && (dec (c.val = c'.val) && (dec (c.old = c'.old) && (dec (c.node = c'.node) && true))))))) :=
  feq_int (k := .i64) (bytes := 8) (zero := .int .i64 0) (sz := 1) (nm := "Kind") (ft := 3) (off := 0) (em := false) (tg := "") (pk := "") (bo := 0) rfl rfl rfl
    (feq_int (k := .i64) (bytes := 8) (zero := .int .i64 0) (sz := 1) (nm := "Client") (ft := 3) (off := 1) (em := false) (tg := "") (pk := "") (bo := 8) rfl rfl rfl
    (feq_int (k := .i64) (bytes := 8) (zero := .int .i64 0) (sz := 1) (nm := "Seq") (ft := 3) (off := 2) (em := false) (tg := "") (pk := "") (bo := 16) rfl rfl rfl
    (feq_str (bytes := 16) (zero := .string ByteArray.empty) (sz := 1) (nm := "Key") (ft := 9) (off := 3) (em := false) (tg := "") (pk := "") (bo := 24) rfl rfl rfl
    (feq_str (bytes := 16) (zero := .string ByteArray.empty) (sz := 1) (nm := "Val") (ft := 9) (off := 4) (em := false) (tg := "") (pk := "") (bo := 40) rfl rfl rfl
    (feq_str (bytes := 16) (zero := .string ByteArray.empty) (sz := 1) (nm := "Old") (ft := 9) (off := 5) (em := false) (tg := "") (pk := "") (bo := 56) rfl rfl rfl
    (feq_int (k := .i64) (bytes := 8) (zero := .int .i64 0) (sz := 1) (nm := "Node") (ft := 3) (off := 6) (em := false) (tg := "") (pk := "") (bo := 72) rfl rfl rfl feq_nil))))))
theorem ent_feq (x y : Ent) : ∃ b, FEq Tryd.prog 9999 x.cells y.cells [⟨"Index", 3, 0, false, "", "", 0⟩, ⟨"Ballot", 25, 1, false, "", "", 8⟩, ⟨"Cmd", 27, 3, false, "", "", 24⟩] b ∧ b = dec (x = y) := by
  refine ⟨_, feq_int (k := .i64) (bytes := 8) (zero := .int .i64 0) (sz := 1) rfl (a := x.index) (b := y.index) rfl rfl (feq_agg (bytes := 16) (zero := .agg #[.int .i64 0, .int .i64 0]) (sz := 2) (us := [.int .i64 x.round, .int .i64 x.node]) (vs := [.int .i64 y.round, .int .i64 y.node]) rfl rfl rfl
    (feq_int (k := .i64) (bytes := 8) (zero := .int .i64 0) (sz := 1) (a := x.round) (b := y.round) rfl rfl rfl (feq_int (k := .i64) (bytes := 8) (zero := .int .i64 0) (sz := 1) (a := x.node) (b := y.node) rfl rfl rfl feq_nil))
    (feq_agg (bytes := 80) (zero := .agg #[.int .i64 0, .int .i64 0, .int .i64 0, .string ByteArray.empty, .string ByteArray.empty, .string ByteArray.empty, .int .i64 0]) (sz := 7) (us := x.cmd.cells) (vs := y.cmd.cells) rfl rfl rfl (cm_feqD 9997 x.cmd y.cmd) feq_nil)), ?_⟩
  rw [cm_dec]
  obtain ⟨a1, a2, a3, a4⟩ := x
  obtain ⟨b1, b2, b3, b4⟩ := y
  rw [Bool.eq_iff_iff]
  simp [dec_true, and_assoc]
theorem eqEnt {σ : Env} {ty t' : TypeId} {a b : Operand} {x y : Ent} (hx : Env.ev σ a = some (.agg x.cells.toArray)) (hy : Env.ev σ b = some (.agg y.cells.toArray)) : PureOp Tryd.prog (.binOp .eql 50 a b t') ty σ (.bool (dec (x = y))) := by
  obtain ⟨q, hq, rfl⟩ := ent_feq x y
  exact p_eqStruct (P := Tryd.prog) (ty := ty) (t := 50) (t' := t') hx hy hq
theorem neEnt {σ : Env} {ty t' : TypeId} {a b : Operand} {x y : Ent} (hx : Env.ev σ a = some (.agg x.cells.toArray)) (hy : Env.ev σ b = some (.agg y.cells.toArray)) : PureOp Tryd.prog (.binOp .neq 50 a b t') ty σ (.bool (!dec (x = y))) := by
  obtain ⟨q, hq, rfl⟩ := ent_feq x y
  exact p_neStruct (P := Tryd.prog) (ty := ty) (t := 50) (t' := t') hx hy hq
noncomputable instance (l : List Ent) : Decidable (RiseL l) := Classical.propDecidable _
theorem entSame_s {G : GH} {a b : List Ent} {av bv : Value} (ha : Es G av a) (hb : Es G bv b) : Con Tryd.prog 44 #[av, bv] G [] (Just (.bool (decide (a = b))) G) := by
  obtain ⟨A, c, rfl, hlc, hcm, hsome, hcp, hcb, hcc, hok⟩ := esOpen ha
  obtain ⟨A', c', rfl, hlc', hcm', hsome', hcp', hcb', hcc', hok'⟩ := esOpen hb
  clear hcb hcc hok hcb' hcc' hok'
  simp only [maxLen] at hcm hcm'
  apply Con.just
  refine v_enter Tryd.func44 rfl Tryd.ntmps44 rfl (fun B => ?_)
  repeat' (first | apply v_seq | apply v_region | apply v_nil | apply v_skip | apply v_block | (apply v_pure; (case hop => first | (apply p_move <;> rfl) | (apply p_ne <;> rfl) | (apply p_assign <;> rfl) | (apply p_lenSlice <;> rfl) | fail); (case hd => rfl)) | (apply v_cond; (case hc => rfl); all_goals (intro h; (try simp only [reduceCtorEq, dec_true, dec_false, decide_eq_true_eq, decide_eq_false_iff_not, Bool.not_eq_true', Bool.not_eq_false', Option.isNone_iff_eq_none, beq_true, beq_false, beq_iff_eq, beq_eq_false_iff_ne, ne_eq, decide_eq_decide, Bool.not_eq_true, Bool.not_eq_false, Decidable.not_not] at h); first | skip)) | fail)
  · refine v_ret [] (outsA1 rfl rfl) (by repeat (first | exact List.Sublist.refl _ | fail)) ?_
    refine ⟨?_, rfl⟩
    rw [decide_eq_false]
    intro e
    subst e
    omega
  have hab : a.length = b.length := by omega
  refine v_loop [5, 0, 1] (fun us G' μ' => G' = G ∧ μ' = [] ∧ ∃ k, k ≤ a.length ∧ us = [Value.int .i64 (k : Nat), .slice A a.length c, .slice A' b.length c'] ∧ ∀ i (h : i < a.length) (h' : i < b.length), i < k → a[i] = b[i]) (fun us => a.length - (headI us).toNat) rfl ⟨rfl, rfl, 0, by omega, rfl, by omega⟩ ?_
  rintro us G' μ' ⟨rfl, rfl, k, hk, rfl, hno⟩
  repeat' (first | apply v_seq | apply v_region | apply v_nil | apply v_skip | apply v_block | (apply v_exit; (case hp => rfl)) | (apply v_pure; (case hop => first | (apply p_move <;> rfl) | (apply p_lt <;> rfl) | (apply p_assign <;> rfl) | (apply p_lenSlice <;> rfl) | fail); (case hd => rfl)) | (apply v_cond; (case hc => rfl); all_goals (intro h; (try simp only [reduceCtorEq, dec_true, dec_false, decide_eq_true_eq, decide_eq_false_iff_not, Bool.not_eq_true', Bool.not_eq_false', Option.isNone_iff_eq_none, beq_true, beq_false, beq_iff_eq, beq_eq_false_iff_ne, ne_eq, decide_eq_decide, Bool.not_eq_true, Bool.not_eq_false, Decidable.not_not] at h); first | skip)) | fail)
  · have hlt : k < a.length := by omega
    refine d_start [] (by kernel_rfl) (by kernel_rfl) (by intro e he; first | exact he | fail) ?_
    all_goals (first | (apply d_take 0; (case hi => rfl); (case hop => first | (apply PureOp.read; apply p_move <;> rfl)); (case hf => kernel_rfl); (case hr => kernel_rfl); (case hd => rfl)) | fail)
    all_goals (first | (apply d_take 1; (case hi => rfl); (case hop => first | (apply PureOp.read; apply p_move <;> rfl)); (case hf => kernel_rfl); (case hr => kernel_rfl); (case hd => rfl)) | fail)
    all_goals (first | (apply d_take 2; (case hi => rfl); (case hop => first | (apply PureOp.read; apply p_indexAddrS; (case hx => rfl); (case hi => rfl); (case h0 => omega); (case h => omega); (case hA => first | (apply_assumption; omega)))); (case hf => kernel_rfl); (case hr => kernel_rfl); (case hd => rfl)) | fail)
    all_goals (first | (apply d_take 3; (case hi => rfl); (case hop => first | ((apply r_loadN; rfl; exact CellsAt.frozen (hcp _ (by omega)); rfl)) | fail); (case hf => kernel_rfl); (case hr => kernel_rfl); (case hd => rfl)) | fail)
    all_goals (first | (apply d_take 4; (case hi => rfl); (case hop => first | (apply PureOp.read; apply p_move <;> rfl)); (case hf => kernel_rfl); (case hr => kernel_rfl); (case hd => rfl)) | fail)
    all_goals (first | (apply d_take 5; (case hi => rfl); (case hop => first | (apply PureOp.read; apply p_move <;> rfl)); (case hf => kernel_rfl); (case hr => kernel_rfl); (case hd => rfl)) | fail)
    all_goals (first | (apply d_take 6; (case hi => rfl); (case hop => first | (apply PureOp.read; apply p_indexAddrS; (case hx => rfl); (case hi => rfl); (case h0 => omega); (case h => omega); (case hA => first | (apply_assumption; omega)))); (case hf => kernel_rfl); (case hr => kernel_rfl); (case hd => rfl)) | fail)
    all_goals (first | (apply d_take 7; (case hi => rfl); (case hop => first | ((apply r_loadN; rfl; exact CellsAt.frozen (hcp' _ (by omega)); rfl)) | fail); (case hf => kernel_rfl); (case hr => kernel_rfl); (case hd => rfl)) | fail)
    all_goals (first | (apply d_take 8; (case hi => rfl); (case hop => first | ((apply PureOp.read; apply neEnt (x := a[k]'(by omega)) (y := b[k]'(by omega)); (case hx => rfl); (case hy => rfl))) | fail); (case hf => kernel_rfl); (case hr => kernel_rfl); (case hd => rfl)) | fail)
    all_goals (apply d_done; (case hr => kernel_rfl))
    repeat' (first | apply v_seq | apply v_region | apply v_nil | apply v_skip | apply v_blk | (apply v_pure; (case hop => first | (apply p_move <;> rfl) | (apply p_assign <;> rfl) | (apply p_add; (case hx => rfl); (case hy => rfl); (case h => omega)) | fail); (case hd => rfl)) | (apply v_cond; (case hc => rfl); all_goals (intro h; (try simp only [reduceCtorEq, dec_true, dec_false, decide_eq_true_eq, decide_eq_false_iff_not, Bool.not_eq_true', Bool.not_eq_false', Option.isNone_iff_eq_none, beq_true, beq_false, beq_iff_eq, beq_eq_false_iff_ne, ne_eq, decide_eq_decide, Bool.not_eq_true, Bool.not_eq_false, Decidable.not_not] at h); first | skip)) | fail)
    · refine v_ret [] (outsA1 rfl rfl) (by repeat (first | exact List.Sublist.refl _ | fail)) ?_
      refine ⟨?_, rfl⟩
      rw [decide_eq_false]
      intro e
      subst e
      contradiction
    · refine v_again rfl ⟨rfl, rfl, k + 1, by omega, rfl, fun i h h' hi => ?_⟩ (by simp [headI]; omega)
      by_cases hik : i = k
      · subst hik; assumption
      · exact hno i h h' (by omega)
  · refine v_ret [] (outsA1 rfl rfl) (by repeat (first | exact List.Sublist.refl _ | fail)) ?_
    refine ⟨?_, rfl⟩
    rw [decide_eq_true]
    exact List.ext_getElem hab fun i h h' => hno i h h' (by omega)
/-! ### What is found -/
theorem placeN_at {l : List Ent} (hr : RiseL l) {i : Nat} (hi : i < l.length) : placeN l l[i].index = i := by
  refine placeN_eq (by omega) (fun m h hm => hr m i hi hm) (fun m h hm => ?_)
  by_cases he : m = i
  · subst he; omega
  · have := hr i m h (by omega)
    omega
theorem hitB_at {l : List Ent} (hr : RiseL l) {i : Nat} (hi : i < l.length) : hitB l l[i].index = true := by
  unfold hitB
  simp only [placeN_at hr hi]
  rw [dif_pos hi]
  simp
theorem hitB_index {l : List Ent} {n : Int} (h : hitB l n = true) : (l[placeN l n]'(hitB_lt h)).index = n := by
  have hl := hitB_lt h
  unfold hitB at h
  rw [dif_pos hl] at h
  exact of_decide_eq_true h
theorem refEntFind_s {G : GH} {l : List Ent} {sv : Value} (n : Int) (hs : Es G sv l) (hr : RiseL l) : Con Tryd.prog 25 #[sv, .int .i64 n] G [] (Just (.int .i64 (if hitB l n = true then (placeN l n : Nat) else -1)) G) := by
  obtain ⟨A, c, rfl, hlc, hcm, hsome, hcp, hcb, hcc, hok⟩ := esOpen hs
  simp only [maxLen] at hcm
  apply Con.just
  refine v_enter Tryd.func25 rfl Tryd.ntmps25 rfl (fun B => ?_)
  repeat' (first | apply v_seq | apply v_region | apply v_nil | apply v_block | (apply v_pure; (case hop => first | (apply p_assign <;> rfl) | fail); (case hd => rfl)) | fail)
  refine v_loop [5, 0, 1] (fun us G' μ' => G' = G ∧ μ' = [] ∧ ∃ k, k ≤ l.length ∧ us = [Value.int .i64 (k : Nat), .slice A l.length c, .int .i64 n] ∧ ∀ i (h : i < l.length), i < k → l[i].index ≠ n) (fun us => l.length - (headI us).toNat) rfl ⟨rfl, rfl, 0, by omega, rfl, by omega⟩ ?_
  rintro us G' μ' ⟨rfl, rfl, k, hk, rfl, hno⟩
  have e1 : ((k : Nat) : Int).toNat = k := by omega
  repeat' (first | apply v_seq | apply v_region | apply v_nil | apply v_skip | apply v_block | apply v_blk | (apply v_exit; (case hp => rfl)) | (apply v_pure; (case hop => first | (apply p_move <;> rfl) | (apply p_eq <;> rfl) | (apply p_lt <;> rfl) | (apply p_assign <;> rfl) | (apply p_lenSlice <;> rfl) | (apply p_fieldAddr <;> rfl) | (apply p_add; (case hx => rfl); (case hy => rfl); (case h => omega)) | (apply p_indexAddrS; (case hx => rfl); (case hi => rfl); (case h0 => omega); (case h => omega); (case hA => first | (apply_assumption; omega))) | fail); (case hd => rfl)) | (apply v_cond; (case hc => rfl); all_goals (intro h; (try simp only [reduceCtorEq, dec_true, dec_false, decide_eq_true_eq, decide_eq_false_iff_not, Bool.not_eq_true', Bool.not_eq_false', Option.isNone_iff_eq_none, beq_true, beq_false, beq_iff_eq, beq_eq_false_iff_ne, ne_eq, decide_eq_decide, Bool.not_eq_true, Bool.not_eq_false, Decidable.not_not] at h); first | skip)) | (apply v_read; (case hop => (apply r_load1; rfl; exact Cell.frozen (esCell hcp _ (by omega)))); (case hd => rfl)) | fail)
  · refine v_ret [] (outsA1 rfl rfl) (by repeat (first | exact List.Sublist.refl _ | fail)) ?_
    refine ⟨?_, rfl⟩
    have hlt : k < l.length := by omega
    have he : l[k].index = n := by assumption
    have h1 := hitB_at hr hlt
    have h2 := placeN_at hr hlt
    rw [he] at h1 h2
    rw [if_pos h1, h2]
  · refine v_again rfl ⟨rfl, rfl, k + 1, by omega, rfl, fun i h hi => ?_⟩ (by simp [headI]; omega)
    by_cases hik : i = k
    · subst hik; assumption
    · exact hno i h (by omega)
  · refine v_ret [] (outsA1 rfl rfl) (by repeat (first | exact List.Sublist.refl _ | fail)) ?_
    refine ⟨?_, rfl⟩
    rw [if_neg]
    intro h
    exact hno _ (hitB_lt h) (by have := hitB_lt h; omega) (hitB_index h)
/-- What Find gives back. -/
def zeroE : Ent := ⟨0, 0, 0, zeroCm⟩
noncomputable def findE (l : List Ent) (n : Int) : Ent := if h : hitB l n = true then l[placeN l n]'(hitB_lt h) else zeroE
theorem find_s {G : GH} {l : List Ent} {sv : Value} (n : Int) (hs : Es G sv l) (hr : RiseL l) : Con Tryd.prog 144 #[sv, .int .i64 n] G [] (Just (.tuple [.agg (findE l n).cells.toArray, .bool (hitB l n)].toArray) G) := by
  have qp := place_s n hs hr
  obtain ⟨A, c, rfl, hlc, hcm, hsome, hcp, hcb, hcc, hok⟩ := esOpen hs
  simp only [maxLen] at hcm
  apply Con.just
  refine v_enter Tryd.func144 rfl Tryd.ntmps144 rfl (fun B => ?_)
  cases hh : hitB l n
  · rw [hh] at qp
    repeat' (first | apply v_seq | apply v_region | apply v_nil | (apply v_pure; (case hop => first | (apply p_move <;> rfl) | (apply p_assign <;> rfl) | (apply p_not <;> rfl) | (apply p_extract0 <;> rfl) | (apply p_extract1 <;> rfl) | (apply p_build; (case hz => rfl); (case hv => (simp only [List.map_cons, List.map_nil]; repeat (first | with_reducible exact evs_nil | fail))); (case hb => (apply bldL; repeat (first | exact bld_nil | fail))))); (case hd => rfl)) | (apply v_condT; (case hc => rfl)) | (apply v_callJ (hs := qp); (case ha => rfl); (case hd => rfl)) | (apply v_alloc; (case hz => rfl); (case hd => rfl); intro b) | (apply v_store; (case hp => rfl); (case hx => rfl); (case hc => rfl); (case hsz => rfl); (case h1 => rfl); (case hb => (repeat (first | exact List.Mem.head _ | fail))); (case hfit => first | exact Nat.le_of_ble_eq_true rfl | fail); (case hov => (first | ((repeat (first | with_reducible exact ov_nil | apply ov_cons | fail)); done) | fail)); (case hu => repeat (first | exact Upd.here _ _ | fail))) | fail)
    refine v_retM [] (outsM_cell_tmp (vs := zeroE.cells) (e := 50) rfl rfl rfl ?_ ?_) (by repeat (first | exact List.nil_sublist _ | fail)) ?_
    · exact List.Mem.head _
    · rfl
    · exact ⟨by rw [findE, dif_neg (by rw [hh]; decide)], rfl⟩
  · rw [hh] at qp
    have hlt := hitB_lt hh
    repeat' (first | apply v_seq | apply v_region | apply v_nil | apply v_skip | (apply v_pure; (case hop => first | (apply p_move <;> rfl) | (apply p_assign <;> rfl) | (apply p_not <;> rfl) | (apply p_extract0 <;> rfl) | (apply p_extract1 <;> rfl) | (apply p_indexAddrS; (case hx => rfl); (case hi => rfl); (case h0 => omega); (case h => omega); (case hA => first | (apply_assumption; omega))) | fail); (case hd => rfl)) | (apply v_condF; (case hc => rfl)) | (apply v_callJ (hs := qp); (case ha => rfl); (case hd => rfl)) | (apply v_read; (case hop => (apply r_loadN; rfl; exact CellsAt.frozen (hcp _ (by omega)); rfl)); (case hd => rfl)) | (apply v_alloc; (case hz => rfl); (case hd => rfl); intro b) | (apply v_store; (case hp => rfl); (case hx => rfl); (case hc => rfl); (case hsz => rfl); (case h1 => rfl); (case hb => (repeat (first | exact List.Mem.head _ | fail))); (case hfit => first | exact Nat.le_of_ble_eq_true rfl | fail); (case hov => (first | ((repeat (first | with_reducible exact ov_nil | apply ov_cons | fail)); done) | fail)); (case hu => repeat (first | exact Upd.here _ _ | fail))) | fail)
    refine v_retM [] (outsM_cell_tmp (vs := (l[placeN l n]'hlt).cells) (e := 50) rfl rfl rfl ?_ ?_) (by repeat (first | exact List.nil_sublist _ | fail)) ?_
    · exact List.Mem.head _
    · rfl
    · exact ⟨by rw [findE, dif_pos hh], rfl⟩
/-- Large says no only of forty entries at most. -/
def LargeB (n : Nat) (G : GH) (r : Value) (G' : GH) (μ' : OH) : Prop := G' = G ∧ μ' = [] ∧ ∃ b, r = .bool b ∧ (b = false → n ≤ 40)
theorem entLargeB_s {G : GH} {l : List Ent} {sv : Value} (hs : Es G sv l) : Con Tryd.prog 35 #[sv] G [] (LargeB l.length G) := by
  obtain ⟨A, c, rfl, hlc, hcm, hsome, hcp, hcb, hcc, hok⟩ := esOpen hs
  simp only [maxLen] at hcm
  have hz := fun i (h : i < l.length) => (hok i h).2.2.2
  simp only [Cm.ok, maxLen] at hz
  refine v_enter Tryd.func35 rfl Tryd.ntmps35 rfl (fun B => ?_)
  repeat' (first | apply v_seq | apply v_region | apply v_nil | apply v_block | (apply v_pure; (case hop => first | (apply p_assign <;> rfl) | fail); (case hd => rfl)) | fail)
  refine v_loop [3, 0] (fun us G' μ' => G' = G ∧ μ' = [] ∧ ∃ k, k ≤ l.length ∧ us = [Value.int .i64 (k : Nat), .slice A l.length c]) (fun us => l.length - (headI us).toNat) rfl ⟨rfl, rfl, 0, by omega, rfl⟩ ?_
  rintro us G' μ' ⟨rfl, rfl, k, hk, rfl⟩
  have e1 : ((k : Nat) : Int).toNat = k := by omega
  repeat' (first | apply v_seq | apply v_region | apply v_nil | apply v_skip | apply v_block | apply v_blk | (apply v_exit; (case hp => rfl)) | (apply v_take; (case hg => rfl)) | (apply v_pass; (case hg => rfl); (case hn => rfl); (case hd => rfl)) | (apply v_pure; (case hop => first | (apply p_move <;> rfl) | (apply p_lt <;> rfl) | (apply p_gt <;> rfl) | (apply p_assign <;> rfl) | (apply p_pickT <;> rfl) | (apply p_pickF <;> rfl) | (apply p_lenSlice <;> rfl) | (apply p_fieldAddrB <;> rfl) | (apply p_fieldAddr <;> rfl) | (apply p_add; (case hx => rfl); (case hy => rfl); (case h => omega)) | (apply p_indexAddrS; (case hx => rfl); (case hi => rfl); (case h0 => omega); (case h => omega); (case hA => first | (apply_assumption; omega))) | (apply p_lenString <;> rfl) | fail); (case hd => rfl)) | (apply v_condT; (case hc => rfl)) | (apply v_condF; (case hc => rfl)) | (apply v_cond; (case hc => rfl); all_goals (intro h; (try simp only [reduceCtorEq, dec_true, dec_false, decide_eq_true_eq, decide_eq_false_iff_not, Bool.not_eq_true', Bool.not_eq_false', Option.isNone_iff_eq_none, beq_true, beq_false, beq_iff_eq, beq_eq_false_iff_ne, ne_eq, decide_eq_decide, Bool.not_eq_true, Bool.not_eq_false, Decidable.not_not] at h); first | skip)) | (apply v_guardB; (case h1 => rfl); (case h2 => rfl); all_goals (intro h; (try simp only [reduceCtorEq, dec_true, dec_false, decide_eq_true_eq, decide_eq_false_iff_not, Bool.not_eq_true', Bool.not_eq_false', Option.isNone_iff_eq_none, beq_true, beq_false, beq_iff_eq, beq_eq_false_iff_ne, ne_eq, decide_eq_decide, Bool.not_eq_true, Bool.not_eq_false, Decidable.not_not] at h); first | skip)) | (apply v_read; (case hop => first | (apply r_load1; rfl; exact Cell.frozen (cmCell hcc _ (by omega) 3 _ rfl)) | (apply r_load1; rfl; exact Cell.frozen (cmCell hcc _ (by omega) 4 _ rfl)) | (apply r_load1; rfl; exact Cell.frozen (cmCell hcc _ (by omega) 5 _ rfl))); (case hd => rfl)) | fail)
  all_goals first
    | (refine v_ret [] (outsA1 rfl rfl) (by repeat (first | exact List.Sublist.refl _ | fail)) ?_
       refine ⟨rfl, rfl, _, rfl, fun h => ?_⟩
       first | (cases h; done) | (have := dec_false.1 h; omega))
    | (refine v_again rfl ⟨rfl, rfl, k + 1, by omega, rfl⟩ (by simp [headI]; omega))
end Go.Proofs.YtnoiahlpmgbhfaaDoor
/-
  entry (layer 12): what lies from an index on; places.
-/
set_option linter.unusedSimpArgs false
set_option linter.unusedVariables false
namespace Go.Proofs.YtnoiahlpmgbhfaaDoor
open Go.Vx Go.ChangeShapes Go.WideShapes Go.ChangeAt Go.RowKit
theorem rise_of_step {l : List Ent} (h : ∀ i (hi : i < l.length), 0 < i → (l[i - 1]'(by omega)).index < l[i].index) : RiseL l := by
  intro i j hj hij
  induction j with
  | zero => omega
  | succ j ih =>
    have h1 := h (j + 1) hj (by omega)
    simp only [Nat.add_sub_cancel] at h1
    by_cases he : i = j
    · subst he; exact h1
    · have := ih (by omega) (by omega)
      omega
theorem es_drop {G : GH} {A : Option Addr} {c p : Nat} {l : List Ent} (hs : Es G (.slice A l.length c) l) (hp : p ≤ l.length) : Es G (.slice (if c = p then A else A.map (·.add (p * 10))) (l.length - p) (c - p)) (l.drop p) := by
  obtain ⟨A', c', he, h1, h2, h3⟩ := hs
  cases he
  refine ⟨_, _, by rw [List.length_drop], by rw [List.length_drop]; omega, by omega, fun h0 => ?_⟩
  rw [List.length_drop] at h0
  obtain ⟨a, rfl, h4⟩ := h3 (by omega)
  refine ⟨a.add (p * 10), by rw [if_neg (by omega)]; rfl, fun i x hx => ?_⟩
  rw [List.getElem?_drop] at hx
  obtain ⟨cs, q1, q2, q3⟩ := h4 (p + i) x hx
  refine ⟨cs, q1, q2, ?_⟩
  rw [adr_add, ← Nat.add_mul]
  exact q3
theorem es_take {G : GH} {A : Option Addr} {c p : Nat} {l : List Ent} (hs : Es G (.slice A l.length c) l) (hp : p ≤ l.length) : Es G (.slice A p c) (l.take p) := by
  obtain ⟨A', c', he, h1, h2, h3⟩ := hs
  cases he
  have hl : (l.take p).length = p := by rw [List.length_take]; omega
  refine ⟨_, _, by rw [hl], by omega, h2, fun h0 => ?_⟩
  rw [hl] at h0
  obtain ⟨a, rfl, h4⟩ := h3 (by omega)
  refine ⟨a, rfl, fun i x hx => h4 i x ?_⟩
  rw [List.getElem?_take] at hx
  split at hx
  · exact hx
  · cases hx
/-- A run of entries, of ours. -/
def Mine (l : List Ent) (G : GH) (r : Value) (G' : GH) (μ' : OH) : Prop := G' = G ∧ Grow 50 10 r l.length (esC l) μ'
theorem from_s {G : GH} {l : List Ent} {sv : Value} (n : Int) (hs : Es G sv l) (hr : RiseL l) (hn : l.length ≤ 40) : Con Tryd.prog 145 #[sv, .int .i64 n] G [] (Mine (l.drop (placeN l n)) G) := by
  have qp := place_s n hs hr
  have hp := placeN_le l n
  obtain ⟨A, c, rfl, hlc, hcm, -⟩ := esOpen hs
  simp only [maxLen] at hcm
  have qc := entClone_s (es_drop hs hp) (by rw [List.length_drop]; omega)
  refine v_enter Tryd.func145 rfl Tryd.ntmps145 rfl (fun B => ?_)
  repeat' (first | apply v_seq | apply v_region | apply v_nil | (apply v_pure; (case hop => first | (apply p_move <;> rfl) | (apply p_assign <;> rfl) | (apply p_extract0 <;> rfl) | (apply p_extract1 <;> rfl) | (apply p_sliceL; (case hx => rfl); (case hl => rfl); all_goals omega) | fail); (case hd => rfl)) | (apply v_callJ (hs := qp); (case ha => rfl); (case hd => rfl)) | fail)
  refine v_call (μ1 := []) (μ2 := _) rfl qc (List.Perm.refl _) rfl ?_
  rintro r G' μ1 _ ⟨rfl, hg⟩
  repeat' (first | apply v_nil | (apply v_pure; (case hop => first | (apply p_assign <;> rfl) | fail); (case hd => rfl)) | fail)
  refine v_ret _ (outsA1 rfl rfl) (by repeat (first | exact List.Sublist.refl _ | fail)) ?_
  exact ⟨rfl, by simpa using hg⟩
theorem filter_split {l : List Ent} {p : Ent → Bool} {i : Nat} (h1 : ∀ m (h : m < l.length), m < i → p l[m] = false) (h2 : ∀ m (h : m < l.length), i ≤ m → p l[m] = true) : l.filter p = l.drop i := by
  have e : l = l.take i ++ l.drop i := (List.take_append_drop i l).symm
  conv => lhs; rw [e]
  rw [List.filter_append, List.filter_eq_nil_iff.2, List.filter_eq_self.2, List.nil_append]
  · intro x hx
    obtain ⟨m, hm, rfl⟩ := List.getElem_of_mem hx
    rw [List.length_drop] at hm
    rw [List.getElem_drop]
    exact h2 _ _ (by omega)
  · intro x hx
    obtain ⟨m, hm, rfl⟩ := List.getElem_of_mem hx
    rw [List.length_take] at hm
    rw [List.getElem_take]
    simp [h1 m (by omega) (by omega)]
theorem filter_split' {l : List Ent} {p : Ent → Bool} {i : Nat} (h1 : ∀ m (h : m < l.length), m < i → p l[m] = true) (h2 : ∀ m (h : m < l.length), i ≤ m → p l[m] = false) : l.filter p = l.take i := by
  have e : l = l.take i ++ l.drop i := (List.take_append_drop i l).symm
  conv => lhs; rw [e]
  have z : (l.drop i).filter p = [] := by
    rw [List.filter_eq_nil_iff]
    intro x hx
    obtain ⟨m, hm, rfl⟩ := List.getElem_of_mem hx
    rw [List.length_drop] at hm
    rw [List.getElem_drop]
    simp [h2 (i + m) (by omega) (by omega)]
  rw [List.filter_append, z, List.filter_eq_self.2, List.append_nil]
  · intro x hx
    obtain ⟨m, hm, rfl⟩ := List.getElem_of_mem hx
    rw [List.length_take] at hm
    rw [List.getElem_take]
    exact h1 _ _ (by omega)
theorem placeN_lt {l : List Ent} (hr : RiseL l) {n : Int} {m : Nat} (hm : m < l.length) : m < placeN l n ↔ l[m].index < n := by
  constructor
  · intro h
    by_cases hc : l[m].index < n
    · exact hc
    · exfalso
      have := placeN_le l n
      have hle : placeN l n ≤ m := by
        have e : l = l.take m ++ l.drop m := (List.take_append_drop m l).symm
        have z : (l.drop m).countP (fun x => decide (x.index < n)) = 0 := by
          rw [List.countP_eq_zero]
          intro x hx
          obtain ⟨q, hq, rfl⟩ := List.getElem_of_mem hx
          rw [List.length_drop] at hq
          rw [List.getElem_drop]
          simp only [decide_eq_true_eq]
          by_cases h0 : q = 0
          · subst h0; exact hc
          · have := hr m (m + q) (by omega) (by omega)
            omega
        have z2 : placeN l n = (l.take m).countP (fun x => decide (x.index < n)) := by
          rw [placeN]
          conv => lhs; rw [e]
          rw [List.countP_append, z, Nat.add_zero]
        have z3 : (l.take m).countP (fun x => decide (x.index < n)) ≤ (l.take m).length := List.countP_le_length
        rw [List.length_take] at z3
        omega
      omega
  · intro h
    have e : l = l.take (m + 1) ++ l.drop (m + 1) := (List.take_append_drop (m + 1) l).symm
    have h1 : (l.take (m + 1)).countP (fun x => decide (x.index < n)) = m + 1 := by
      rw [List.countP_eq_length.2, List.length_take]
      · omega
      · intro x hx
        obtain ⟨q, hq, rfl⟩ := List.getElem_of_mem hx
        rw [List.length_take] at hq
        rw [List.getElem_take]
        simp only [decide_eq_true_eq]
        by_cases h0 : q = m
        · subst h0; exact h
        · have := hr q m hm (by omega)
          omega
    have h2 : placeN l n = m + 1 + (l.drop (m + 1)).countP (fun x => decide (x.index < n)) := by
      rw [placeN]
      conv => lhs; rw [e]
      rw [List.countP_append, h1]
    omega
end Go.Proofs.YtnoiahlpmgbhfaaDoor
/-
  entry (layer 12), the tenth part: With, by the reference.
-/
set_option linter.unusedSimpArgs false
set_option linter.unusedVariables false
namespace Go.Proofs.YtnoiahlpmgbhfaaDoor
open Go.Vx Go.ChangeShapes Go.WideShapes Go.ChangeAt Go.RowKit
theorem withL_hit {l : List Ent} {x : Ent} (h : hitB l x.index = true) : withL l x = l.set (placeN l x.index) x := by rw [withL, if_pos h]
theorem withL_no {l : List Ent} {x : Ent} (h : ¬ hitB l x.index = true) : withL l x = l.take (placeN l x.index) ++ x :: l.drop (placeN l x.index) := by rw [withL, if_neg h]
theorem withL_lo {l : List Ent} {x : Ent} {k : Nat} (hk : k ≤ placeN l x.index) : (withL l x).take k = l.take k := by
  have hp := placeN_le l x.index
  by_cases h : hitB l x.index = true
  · rw [withL_hit h, List.take_set, List.set_eq_of_length_le (by rw [List.length_take]; omega)]
  · rw [withL_no h, List.take_append_of_le_length (by rw [List.length_take]; omega), List.take_take, Nat.min_eq_left hk]
theorem withL_at (l : List Ent) (x : Ent) : (withL l x)[placeN l x.index]? = some x := by
  have hp := placeN_le l x.index
  by_cases h : hitB l x.index = true
  · rw [withL_hit h, List.getElem?_set_self (hitB_lt h)]
  · rw [withL_no h, List.getElem?_append_right (by rw [List.length_take]; omega), List.length_take, Nat.min_eq_left hp, Nat.sub_self]
    rfl
theorem withL_hi {l : List Ent} {x : Ent} {k : Nat} (hk : placeN l x.index < k) (h : hitB l x.index = true) : (withL l x)[k]? = l[k]? := by
  rw [withL_hit h, List.getElem?_set_ne (by omega)]
theorem withL_hi' {l : List Ent} {x : Ent} {k : Nat} (hk : placeN l x.index ≤ k) (h : ¬ hitB l x.index = true) : (withL l x)[k + 1]? = l[k]? := by
  have hp := placeN_le l x.index
  rw [withL_no h, List.getElem?_append_right (by rw [List.length_take]; omega), List.length_take, Nat.min_eq_left hp, show k + 1 - placeN l x.index = (k - placeN l x.index) + 1 by omega, List.getElem?_cons_succ, List.getElem?_drop, show placeN l x.index + (k - placeN l x.index) = k by omega]
/-- How far the copy has come: without x, and with x. -/
theorem wl_a {l : List Ent} {k : Nat} (h : k < l.length) : l.take (k + 1) = l.take k ++ [l[k]] := by rw [List.take_add_one, List.getElem?_eq_getElem h]; rfl
theorem wl_b {l : List Ent} {x : Ent} {q : Nat} (hq : placeN l x.index = q) (h : hitB l x.index = true) : (withL l x).take (q + 1) = l.take q ++ [x] := by
  subst hq
  rw [List.take_add_one, withL_lo (Nat.le_refl _), withL_at]; rfl
theorem wl_c {l : List Ent} {x : Ent} {q : Nat} (hq : placeN l x.index = q) (h : ¬ hitB l x.index = true) (hlt : q < l.length) : (withL l x).take (q + 1 + 1) = l.take q ++ [x] ++ [l[q]] := by
  subst hq
  rw [List.take_add_one, List.take_add_one, withL_lo (Nat.le_refl _), withL_at, withL_hi' (Nat.le_refl _) h, List.getElem?_eq_getElem hlt]; rfl
theorem wl_d {l : List Ent} {x : Ent} {k q : Nat} (hq : placeN l x.index = q) (hk : q < k) (hlt : k < l.length) : (withL l x).take (if hitB l x.index = true then k + 1 else k + 1 + 1) = (withL l x).take (if hitB l x.index = true then k else k + 1) ++ [l[k]] := by
  subst hq
  by_cases h : hitB l x.index = true
  · rw [if_pos h, if_pos h, List.take_add_one, withL_hi hk h, List.getElem?_eq_getElem hlt]; rfl
  · rw [if_neg h, if_neg h, List.take_add_one, withL_hi' (by omega) h, List.getElem?_eq_getElem hlt]; rfl
theorem wl_e {l : List Ent} {x : Ent} (h : placeN l x.index = l.length) : withL l x = l ++ [x] := by
  rw [withL_no (fun hh => by have := hitB_lt hh; omega), h, List.take_length, List.drop_length]
theorem grow_add {l : List Ent} {y : Ent} {v : Value} {ν : OH} (h : Grow 50 10 v (l.length + 1) (esC l ++ y.cells) ν) : Grow 50 10 v (l ++ [y]).length (esC (l ++ [y])) ν := by
  rw [esC_append, List.length_append]
  simpa [esC] using h
theorem refWith_s {G : GH} {l : List Ent} {sv : Value} (x : Ent) (hs : Es G sv l) (hr : RiseL l) (hn : l.length ≤ 40) : Con Tryd.prog 64 #[sv, .agg x.cells.toArray] G [] (Mine (withL l x) G) := by
  have hp := placeN_le l x.index
  have hpl := fun m (h : m < l.length) => placeN_lt (n := x.index) hr h
  have hwl := withL_len l x
  obtain ⟨A, c, rfl, hlc, hcm, hsome, hcp, hcb, hcc, hok⟩ := esOpen hs
  simp only [maxLen] at hcm
  obtain ⟨p, hpp⟩ : ∃ p, placeN l x.index = p := ⟨_, rfl⟩
  rw [hpp] at hp
  simp only [hpp] at hpl
  refine v_enter Tryd.func64 rfl Tryd.ntmps64 rfl (fun B => ?_)
  repeat' (first | apply v_seq | apply v_region | apply v_nil | apply v_block | (apply v_pure; (case hop => first | (apply p_assign <;> rfl) | fail); (case hd => rfl)) | (apply v_box (zs := x.cells); (case hx => rfl); (case hz => rfl); (case hd => rfl); intro bx) | fail)
  refine v_loop [7, 0, 5, 6, 3] (fun us G' μ' => G' = G ∧ ∃ (k : Nat) (out : Value) (dn : Bool) (ν : OH) (m : List Ent), k ≤ l.length ∧ us = [Value.int .i64 (k : Nat), .slice A l.length c, out, .bool dn, .pointer (some ⟨bx, 0, none⟩)] ∧ μ' = (bx, .cells x.cells.toArray 50 (0, 0)) :: ν ∧ Grow 50 10 out m.length (esC m) ν ∧ ((dn = false ∧ k ≤ p ∧ m = l.take k) ∨ (dn = true ∧ p < k ∧ m = (withL l x).take (if hitB l x.index = true then k else k + 1)))) (fun us => l.length - (headI us).toNat) rfl ⟨rfl, 0, _, false, [], [], by omega, rfl, rfl, Grow.nil _ _, .inl ⟨rfl, by omega, rfl⟩⟩ ?_
  rintro us G' μ' ⟨rfl, k, out, dn, ν, m, hk, rfl, rfl, hg, hm⟩
  have e1 : ((k : Nat) : Int).toNat = k := by omega
  have hml : m.length ≤ k + 1 := by
    rcases hm with ⟨_, _, rfl⟩ | ⟨_, _, rfl⟩
    · rw [List.length_take]; omega
    · rw [List.length_take]; split <;> omega
  rcases hm with ⟨rfl, hkp, hme⟩ | ⟨rfl, hkp, hme⟩
  · repeat' (first | apply v_seq | apply v_region | apply v_nil | apply v_skip | apply v_block | (apply v_exit; (case hp => rfl)) | (apply v_pure; (case hop => first | (apply p_move <;> rfl) | (apply p_lt <;> rfl) | (apply p_not <;> rfl) | (apply p_lenSlice <;> rfl) | fail); (case hd => rfl)) | (apply v_condT; (case hc => rfl)) | (apply v_cond; (case hc => rfl); all_goals (intro h; (try simp only [reduceCtorEq, dec_true, dec_false, decide_eq_true_eq, decide_eq_false_iff_not, Bool.not_eq_true', Bool.not_eq_false', Option.isNone_iff_eq_none, beq_true, beq_false, beq_iff_eq, beq_eq_false_iff_ne, ne_eq, decide_eq_decide, Bool.not_eq_true, Bool.not_eq_false, Decidable.not_not] at h); first | skip)) | (apply v_read; (case hop => first | (apply r_loadNo; (case hx => rfl); (case h => (repeat (first | exact List.Mem.head _ | fail))); (case hd => (repeat (first | with_reducible exact dt_nil | apply dt_here | fail))); (case hn => rfl)) | fail); (case hd => rfl)) | (apply v_buildSlice; (case hz => rfl); (case hi => rfl); (case hv => (simp only [List.map_cons, List.map_nil]; repeat (first | with_reducible exact evs_nil | (apply evs_cons; (case h1 => rfl))))); (case hp => (first | (apply pk_cons; (case hc => rfl); (case hs => rfl); (case h => (first | with_reducible exact pk_nil | fail)); (case he => (first | ((repeat (first | with_reducible exact ap_nil | apply ap_cons)); done) | fail))) | fail)); (case hb => rfl); (case hd => rfl); intro b) | fail)
    · have hlt : k < l.length := by omega
      refine d_start _ (by kernel_rfl) (by kernel_rfl) (fun _ he => he) ?_
      all_goals (first | (apply d_take 0; (case hi => rfl); (case hop => first | (apply PureOp.read; apply p_move <;> rfl)); (case hf => kernel_rfl); (case hr => kernel_rfl); (case hd => rfl)) | fail)
      all_goals (first | (apply d_take 1; (case hi => rfl); (case hop => first | (apply PureOp.read; apply p_not <;> rfl)); (case hf => kernel_rfl); (case hr => kernel_rfl); (case hd => rfl)) | fail)
      all_goals (first | (apply d_take 2; (case hi => rfl); (case hop => first | (apply PureOp.read; apply p_move <;> rfl)); (case hf => kernel_rfl); (case hr => kernel_rfl); (case hd => rfl)) | fail)
      all_goals (try (apply d_guardB 3; (case hi => rfl); (case hgd => rfl); (case h1 => rfl); (case h2 => first | rfl); all_goals (intro h; (try simp only [reduceCtorEq, dec_true, dec_false, decide_eq_true_eq, decide_eq_false_iff_not, Bool.not_eq_true', Bool.not_eq_false', Option.isNone_iff_eq_none, beq_true, beq_false, beq_iff_eq, beq_eq_false_iff_ne, ne_eq, decide_eq_decide, Bool.not_eq_true, Bool.not_eq_false, Decidable.not_not] at h); first | done | skip)))
      all_goals (first | (apply d_takeG 3; (case hi => rfl); (case hg => rfl); (case hop => first | (apply PureOp.read; apply p_move <;> rfl)); (case hf => kernel_rfl); (case hr => kernel_rfl); (case hd => rfl)) | fail)
      all_goals (try (apply d_guardB 4; (case hi => rfl); (case hgd => rfl); (case h1 => rfl); (case h2 => first | rfl); all_goals (intro h; (try simp only [reduceCtorEq, dec_true, dec_false, decide_eq_true_eq, decide_eq_false_iff_not, Bool.not_eq_true', Bool.not_eq_false', Option.isNone_iff_eq_none, beq_true, beq_false, beq_iff_eq, beq_eq_false_iff_ne, ne_eq, decide_eq_decide, Bool.not_eq_true, Bool.not_eq_false, Decidable.not_not] at h); first | done | skip)))
      all_goals (first | (apply d_takeG 4; (case hi => rfl); (case hg => rfl); (case hop => first | (apply PureOp.read; apply p_move <;> rfl)); (case hf => kernel_rfl); (case hr => kernel_rfl); (case hd => rfl)) | fail)
      all_goals (try (apply d_guardB 5; (case hi => rfl); (case hgd => rfl); (case h1 => rfl); (case h2 => first | rfl); all_goals (intro h; (try simp only [reduceCtorEq, dec_true, dec_false, decide_eq_true_eq, decide_eq_false_iff_not, Bool.not_eq_true', Bool.not_eq_false', Option.isNone_iff_eq_none, beq_true, beq_false, beq_iff_eq, beq_eq_false_iff_ne, ne_eq, decide_eq_decide, Bool.not_eq_true, Bool.not_eq_false, Decidable.not_not] at h); first | done | skip)))
      all_goals (first | (apply d_takeG 5; (case hi => rfl); (case hg => rfl); (case hop => first | (apply PureOp.read; apply p_indexAddrS; (case hx => rfl); (case hi => rfl); (case h0 => omega); (case h => omega); (case hA => first | (apply_assumption; omega)))); (case hf => kernel_rfl); (case hr => kernel_rfl); (case hd => rfl)) | fail)
      all_goals (try (apply d_guardB 6; (case hi => rfl); (case hgd => rfl); (case h1 => rfl); (case h2 => first | rfl); all_goals (intro h; (try simp only [reduceCtorEq, dec_true, dec_false, decide_eq_true_eq, decide_eq_false_iff_not, Bool.not_eq_true', Bool.not_eq_false', Option.isNone_iff_eq_none, beq_true, beq_false, beq_iff_eq, beq_eq_false_iff_ne, ne_eq, decide_eq_decide, Bool.not_eq_true, Bool.not_eq_false, Decidable.not_not] at h); first | done | skip)))
      all_goals (first | (apply d_takeG 6; (case hi => rfl); (case hg => rfl); (case hop => first | (apply PureOp.read; apply p_fieldAddr <;> rfl)); (case hf => kernel_rfl); (case hr => kernel_rfl); (case hd => rfl)) | fail)
      all_goals (try (apply d_guardB 7; (case hi => rfl); (case hgd => rfl); (case h1 => rfl); (case h2 => first | rfl); all_goals (intro h; (try simp only [reduceCtorEq, dec_true, dec_false, decide_eq_true_eq, decide_eq_false_iff_not, Bool.not_eq_true', Bool.not_eq_false', Option.isNone_iff_eq_none, beq_true, beq_false, beq_iff_eq, beq_eq_false_iff_ne, ne_eq, decide_eq_decide, Bool.not_eq_true, Bool.not_eq_false, Decidable.not_not] at h); first | done | skip)))
      all_goals (first | (apply d_takeG 7; (case hi => rfl); (case hg => rfl); (case hop => first | ((apply r_load1; rfl; exact Cell.frozen (esCell hcp _ (by omega)))) | fail); (case hf => kernel_rfl); (case hr => kernel_rfl); (case hd => rfl)) | fail)
      all_goals (try (apply d_guardB 8; (case hi => rfl); (case hgd => rfl); (case h1 => rfl); (case h2 => first | rfl); all_goals (intro h; (try simp only [reduceCtorEq, dec_true, dec_false, decide_eq_true_eq, decide_eq_false_iff_not, Bool.not_eq_true', Bool.not_eq_false', Option.isNone_iff_eq_none, beq_true, beq_false, beq_iff_eq, beq_eq_false_iff_ne, ne_eq, decide_eq_decide, Bool.not_eq_true, Bool.not_eq_false, Decidable.not_not] at h); first | done | skip)))
      all_goals (first | (apply d_takeG 8; (case hi => rfl); (case hg => rfl); (case hop => first | (apply PureOp.read; apply p_fieldAddrB <;> rfl) | fail); (case hf => kernel_rfl); (case hr => kernel_rfl); (case hd => rfl)) | fail)
      all_goals (try (apply d_guardB 9; (case hi => rfl); (case hgd => rfl); (case h1 => rfl); (case h2 => first | rfl); all_goals (intro h; (try simp only [reduceCtorEq, dec_true, dec_false, decide_eq_true_eq, decide_eq_false_iff_not, Bool.not_eq_true', Bool.not_eq_false', Option.isNone_iff_eq_none, beq_true, beq_false, beq_iff_eq, beq_eq_false_iff_ne, ne_eq, decide_eq_decide, Bool.not_eq_true, Bool.not_eq_false, Decidable.not_not] at h); first | done | skip)))
      all_goals (first | (apply d_takeG 9; (case hi => rfl); (case hg => rfl); (case hop => first | (apply r_load1; rfl; (apply Cell.own; (case h => (repeat (first | exact List.Mem.head _ | fail))); rfl)) | fail); (case hf => kernel_rfl); (case hr => kernel_rfl); (case hd => rfl)) | fail)
      all_goals (try (apply d_guardB 10; (case hi => rfl); (case hgd => rfl); (case h1 => rfl); (case h2 => first | rfl); all_goals (intro h; (try simp only [reduceCtorEq, dec_true, dec_false, decide_eq_true_eq, decide_eq_false_iff_not, Bool.not_eq_true', Bool.not_eq_false', Option.isNone_iff_eq_none, beq_true, beq_false, beq_iff_eq, beq_eq_false_iff_ne, ne_eq, decide_eq_decide, Bool.not_eq_true, Bool.not_eq_false, Decidable.not_not] at h); first | done | skip)))
      all_goals (first | (apply d_takeG 10; (case hi => rfl); (case hg => rfl); (case hop => first | (apply PureOp.read; apply p_ge <;> rfl)); (case hf => kernel_rfl); (case hr => kernel_rfl); (case hd => rfl)) | fail)
      all_goals (first | (apply d_take 11; (case hi => rfl); (case hop => first | (apply PureOp.read; apply p_pickT <;> rfl) | fail); (case hf => kernel_rfl); (case hr => kernel_rfl); (case hd => rfl)) | fail)
      all_goals (apply d_done; (case hr => kernel_rfl))
      repeat' (first | apply v_seq | apply v_region | apply v_skip | (apply v_pure; (case hop => first | (apply p_move <;> rfl) | fail); (case hd => rfl)) | (apply v_cond; (case hc => rfl); all_goals (intro h; (try simp only [reduceCtorEq, dec_true, dec_false, decide_eq_true_eq, decide_eq_false_iff_not, Bool.not_eq_true', Bool.not_eq_false', Option.isNone_iff_eq_none, beq_true, beq_false, beq_iff_eq, beq_eq_false_iff_ne, ne_eq, decide_eq_decide, Bool.not_eq_true, Bool.not_eq_false, Decidable.not_not] at h); first | skip)) | (apply v_read; (case hop => first | (apply r_loadNo; (case hx => rfl); (case h => (repeat (first | exact List.Mem.head _ | fail))); (case hd => (repeat (first | with_reducible exact dt_nil | apply dt_here | fail))); (case hn => rfl)) | fail); (case hd => rfl)) | (apply v_buildSlice; (case hz => rfl); (case hi => rfl); (case hv => (simp only [List.map_cons, List.map_nil]; repeat (first | with_reducible exact evs_nil | (apply evs_cons; (case h1 => rfl))))); (case hp => (first | (apply pk_cons; (case hc => rfl); (case hs => rfl); (case h => (first | with_reducible exact pk_nil | fail)); (case he => (first | ((repeat (first | with_reducible exact ap_nil | apply ap_cons)); done) | fail))) | fail)); (case hb => rfl); (case hd => rfl); intro b) | fail)
      · have hge : ¬ l[k].index < x.index := by simp only [e1] at *; omega
        have hkp' : p = k := by
          have := mt (hpl k hlt).1 hge
          omega
        refine v_append (e := 50) (agg := true) (sz := 10) (bytes := 104) (zero := zE) rfl (by omega) rfl rfl hg (show List.Perm ((b, Obj.cells (x).cells.toArray 50 (0, 0)) :: (bx, Obj.cells (x).cells.toArray 50 (0, 0)) :: ν) _ from (List.perm_append_comm (l₁ := [(b, Obj.cells (x).cells.toArray 50 (0, 0)), (bx, Obj.cells (x).cells.toArray 50 (0, 0))]))) (m' := 1) (us := (x).cells) (Src.own (e := 50) (List.Mem.head _) rfl) rfl (by omega) (by simp only [maxLen]; omega) rfl fun v1 ν1 hg1 => ?_
        refine v_perm (show List.Perm (ν1 ++ [(b, Obj.cells (x).cells.toArray 50 (0, 0)), (bx, Obj.cells (x).cells.toArray 50 (0, 0))]) (((bx, Obj.cells (x).cells.toArray 50 (0, 0)) :: ν1) ++ [(b, Obj.cells (x).cells.toArray 50 (0, 0))]) from (by apply perm_of_count; intro p; simp only [List.countP_append, List.countP_cons, List.countP_nil, Nat.zero_add, Nat.add_zero]; try ac_rfl)) ?_
        refine v_drop (ν := (bx, Obj.cells (x).cells.toArray 50 (0, 0)) :: ν1) (List.sublist_append_left _ _) ?_
        subst hme
        have hg2 := grow_add hg1
        have hl2 : (l.take k ++ [x]).length ≤ k + 1 := by rw [List.length_append, List.length_take, List.length_singleton]; omega
        clear hg hg1
        generalize hm2 : l.take k ++ [x] = m2 at *
        repeat' (first | apply v_seq | apply v_region | apply v_nil | (apply v_pure; (case hop => first | (apply p_assign <;> rfl) | fail); (case hd => rfl)) | fail)
        refine d_start _ (by kernel_rfl) (by kernel_rfl) (fun _ he => he) ?_
        all_goals (first | (apply d_take 0; (case hi => rfl); (case hop => first | (apply PureOp.read; apply p_move <;> rfl)); (case hf => kernel_rfl); (case hr => kernel_rfl); (case hd => rfl)) | fail)
        all_goals (first | (apply d_take 1; (case hi => rfl); (case hop => first | (apply PureOp.read; apply p_move <;> rfl)); (case hf => kernel_rfl); (case hr => kernel_rfl); (case hd => rfl)) | fail)
        all_goals (first | (apply d_take 2; (case hi => rfl); (case hop => first | (apply PureOp.read; apply p_indexAddrS; (case hx => rfl); (case hi => rfl); (case h0 => omega); (case h => omega); (case hA => first | (apply_assumption; omega)))); (case hf => kernel_rfl); (case hr => kernel_rfl); (case hd => rfl)) | fail)
        all_goals (first | (apply d_take 3; (case hi => rfl); (case hop => first | (apply PureOp.read; apply p_fieldAddr <;> rfl)); (case hf => kernel_rfl); (case hr => kernel_rfl); (case hd => rfl)) | fail)
        all_goals (first | (apply d_take 4; (case hi => rfl); (case hop => first | ((apply r_load1; rfl; exact Cell.frozen (esCell hcp _ (by omega)))) | fail); (case hf => kernel_rfl); (case hr => kernel_rfl); (case hd => rfl)) | fail)
        all_goals (first | (apply d_take 5; (case hi => rfl); (case hop => first | (apply PureOp.read; apply p_fieldAddrB <;> rfl) | fail); (case hf => kernel_rfl); (case hr => kernel_rfl); (case hd => rfl)) | fail)
        all_goals (first | (apply d_take 6; (case hi => rfl); (case hop => first | (apply r_load1; rfl; (apply Cell.own; (case h => (repeat (first | exact List.Mem.head _ | fail))); rfl)) | fail); (case hf => kernel_rfl); (case hr => kernel_rfl); (case hd => rfl)) | fail)
        all_goals (first | (apply d_take 7; (case hi => rfl); (case hop => first | (apply PureOp.read; apply p_ne <;> rfl) | fail); (case hf => kernel_rfl); (case hr => kernel_rfl); (case hd => rfl)) | fail)
        all_goals (apply d_done; (case hr => kernel_rfl))
        repeat' (first | apply v_region | apply v_nil | apply v_skip | apply v_blk | (apply v_pure; (case hop => first | (apply p_move <;> rfl) | (apply p_assign <;> rfl) | (apply p_add; (case hx => rfl); (case hy => rfl); (case h => omega)) | (apply p_indexAddrS; (case hx => rfl); (case hi => rfl); (case h0 => omega); (case h => omega); (case hA => first | (apply_assumption; omega))) | fail); (case hd => rfl)) | (apply v_cond; (case hc => rfl); all_goals (intro h; (try simp only [reduceCtorEq, dec_true, dec_false, decide_eq_true_eq, decide_eq_false_iff_not, Bool.not_eq_true', Bool.not_eq_false', Option.isNone_iff_eq_none, beq_true, beq_false, beq_iff_eq, beq_eq_false_iff_ne, ne_eq, decide_eq_decide, Bool.not_eq_true, Bool.not_eq_false, Decidable.not_not] at h); first | skip)) | (apply v_read; (case hop => first | (apply r_loadN; rfl; exact CellsAt.frozen (hcp _ (by omega)); rfl)); (case hd => rfl)) | (apply v_buildSlice; (case hz => rfl); (case hi => rfl); (case hv => (simp only [List.map_cons, List.map_nil]; repeat (first | with_reducible exact evs_nil | (apply evs_cons; (case h1 => rfl))))); (case hp => (first | (apply pk_cons; (case hc => rfl); (case hs => rfl); (case h => (first | with_reducible exact pk_nil | fail)); (case he => (first | ((repeat (first | with_reducible exact ap_nil | apply ap_cons)); done) | fail))) | fail)); (case hb => rfl); (case hd => rfl); intro b) | fail)
        · have hne : ¬ l[k].index = x.index := by simp only [e1] at *; assumption
          have hnh : ¬ hitB l x.index = true := fun hh => by
            have h1 := hitB_index hh
            simp only [hpp, hkp'] at h1
            exact hne h1
          refine v_append (e := 50) (agg := true) (sz := 10) (bytes := 104) (zero := zE) rfl (by omega) rfl rfl hg2 (show List.Perm ((b, Obj.cells (l[k]'hlt).cells.toArray 50 (0, 0)) :: (bx, Obj.cells (x).cells.toArray 50 (0, 0)) :: ν1) _ from (List.perm_append_comm (l₁ := [(b, Obj.cells (l[k]'hlt).cells.toArray 50 (0, 0)), (bx, Obj.cells (x).cells.toArray 50 (0, 0))]))) (m' := 1) (us := (l[k]'hlt).cells) (Src.own (e := 50) (List.Mem.head _) rfl) rfl (by omega) (by simp only [maxLen]; omega) rfl fun v2 ν2 hg3 => ?_
          refine v_perm (show List.Perm (ν2 ++ [(b, Obj.cells (l[k]'hlt).cells.toArray 50 (0, 0)), (bx, Obj.cells (x).cells.toArray 50 (0, 0))]) (((bx, Obj.cells (x).cells.toArray 50 (0, 0)) :: ν2) ++ [(b, Obj.cells (l[k]'hlt).cells.toArray 50 (0, 0))]) from (by apply perm_of_count; intro p; simp only [List.countP_append, List.countP_cons, List.countP_nil, Nat.zero_add, Nat.add_zero]; try ac_rfl)) ?_
          refine v_drop (ν := (bx, Obj.cells (x).cells.toArray 50 (0, 0)) :: ν2) (List.sublist_append_left _ _) ?_
          repeat' (first | apply v_region | apply v_nil | apply v_blk | (apply v_pure; (case hop => first | (apply p_move <;> rfl) | (apply p_assign <;> rfl) | (apply p_add; (case hx => rfl); (case hy => rfl); (case h => omega)) | fail); (case hd => rfl)) | fail)
          refine v_again rfl ⟨rfl, k + 1, v2, true, ν2, m2 ++ [l[k]], by omega, rfl, rfl, grow_add hg3, .inr ⟨rfl, by omega, ?_⟩⟩ (by simp [headI]; omega)
          rw [if_neg hnh, wl_c (hpp.trans hkp') hnh hlt, hm2]
        · have he : l[k].index = x.index := by simp only [e1] at *; assumption
          have hh : hitB l x.index = true := by rw [← he]; exact hitB_at hr hlt
          refine v_again rfl ⟨rfl, k + 1, v1, true, ν1, m2, by omega, rfl, rfl, hg2, .inr ⟨rfl, by omega, ?_⟩⟩ (by simp [headI]; omega)
          rw [if_pos hh, wl_b (hpp.trans hkp') hh, hm2]
      · have hlt' : l[k].index < x.index := by simp only [e1] at *; omega
        have hkp' : k < p := (hpl k hlt).2 hlt'
        refine d_start _ (by kernel_rfl) (by kernel_rfl) (fun _ he => he) ?_
        all_goals (first | (apply d_take 0; (case hi => rfl); (case hop => first | (apply PureOp.read; apply p_move <;> rfl)); (case hf => kernel_rfl); (case hr => kernel_rfl); (case hd => rfl)) | fail)
        all_goals (first | (apply d_take 1; (case hi => rfl); (case hop => first | (apply PureOp.read; apply p_move <;> rfl)); (case hf => kernel_rfl); (case hr => kernel_rfl); (case hd => rfl)) | fail)
        all_goals (first | (apply d_take 2; (case hi => rfl); (case hop => first | (apply PureOp.read; apply p_indexAddrS; (case hx => rfl); (case hi => rfl); (case h0 => omega); (case h => omega); (case hA => first | (apply_assumption; omega)))); (case hf => kernel_rfl); (case hr => kernel_rfl); (case hd => rfl)) | fail)
        all_goals (first | (apply d_take 3; (case hi => rfl); (case hop => first | (apply PureOp.read; apply p_fieldAddr <;> rfl)); (case hf => kernel_rfl); (case hr => kernel_rfl); (case hd => rfl)) | fail)
        all_goals (first | (apply d_take 4; (case hi => rfl); (case hop => first | ((apply r_load1; rfl; exact Cell.frozen (esCell hcp _ (by omega)))) | fail); (case hf => kernel_rfl); (case hr => kernel_rfl); (case hd => rfl)) | fail)
        all_goals (first | (apply d_take 5; (case hi => rfl); (case hop => first | (apply PureOp.read; apply p_fieldAddrB <;> rfl) | fail); (case hf => kernel_rfl); (case hr => kernel_rfl); (case hd => rfl)) | fail)
        all_goals (first | (apply d_take 6; (case hi => rfl); (case hop => first | (apply r_load1; rfl; (apply Cell.own; (case h => (repeat (first | exact List.Mem.head _ | fail))); rfl)) | fail); (case hf => kernel_rfl); (case hr => kernel_rfl); (case hd => rfl)) | fail)
        all_goals (first | (apply d_take 7; (case hi => rfl); (case hop => first | (apply PureOp.read; apply p_ne <;> rfl) | fail); (case hf => kernel_rfl); (case hr => kernel_rfl); (case hd => rfl)) | fail)
        all_goals (apply d_done; (case hr => kernel_rfl))
        repeat' (first | apply v_region | (apply v_pure; (case hop => first | (apply p_move <;> rfl) | (apply p_indexAddrS; (case hx => rfl); (case hi => rfl); (case h0 => omega); (case h => omega); (case hA => first | (apply_assumption; omega))) | fail); (case hd => rfl)) | (apply v_cond; (case hc => rfl); all_goals (intro h; (try simp only [reduceCtorEq, dec_true, dec_false, decide_eq_true_eq, decide_eq_false_iff_not, Bool.not_eq_true', Bool.not_eq_false', Option.isNone_iff_eq_none, beq_true, beq_false, beq_iff_eq, beq_eq_false_iff_ne, ne_eq, decide_eq_decide, Bool.not_eq_true, Bool.not_eq_false, Decidable.not_not] at h); first | (exfalso; omega) | skip)) | (apply v_read; (case hop => first | (apply r_loadN; rfl; exact CellsAt.frozen (hcp _ (by omega)); rfl)); (case hd => rfl)) | (apply v_buildSlice; (case hz => rfl); (case hi => rfl); (case hv => (simp only [List.map_cons, List.map_nil]; repeat (first | with_reducible exact evs_nil | (apply evs_cons; (case h1 => rfl))))); (case hp => (first | (apply pk_cons; (case hc => rfl); (case hs => rfl); (case h => (first | with_reducible exact pk_nil | fail)); (case he => (first | ((repeat (first | with_reducible exact ap_nil | apply ap_cons)); done) | fail))) | fail)); (case hb => rfl); (case hd => rfl); intro b) | fail)
        · skip
          refine v_append (e := 50) (agg := true) (sz := 10) (bytes := 104) (zero := zE) rfl (by omega) rfl rfl hg (show List.Perm ((b, Obj.cells (l[k]'hlt).cells.toArray 50 (0, 0)) :: (bx, Obj.cells (x).cells.toArray 50 (0, 0)) :: ν) _ from (List.perm_append_comm (l₁ := [(b, Obj.cells (l[k]'hlt).cells.toArray 50 (0, 0)), (bx, Obj.cells (x).cells.toArray 50 (0, 0))]))) (m' := 1) (us := (l[k]'hlt).cells) (Src.own (e := 50) (List.Mem.head _) rfl) rfl (by omega) (by simp only [maxLen]; omega) rfl fun v1 ν1 hg1 => ?_
          refine v_perm (show List.Perm (ν1 ++ [(b, Obj.cells (l[k]'hlt).cells.toArray 50 (0, 0)), (bx, Obj.cells (x).cells.toArray 50 (0, 0))]) (((bx, Obj.cells (x).cells.toArray 50 (0, 0)) :: ν1) ++ [(b, Obj.cells (l[k]'hlt).cells.toArray 50 (0, 0))]) from (by apply perm_of_count; intro p; simp only [List.countP_append, List.countP_cons, List.countP_nil, Nat.zero_add, Nat.add_zero]; try ac_rfl)) ?_
          refine v_drop (ν := (bx, Obj.cells (x).cells.toArray 50 (0, 0)) :: ν1) (List.sublist_append_left _ _) ?_
          repeat' (first | apply v_region | apply v_nil | apply v_blk | (apply v_pure; (case hop => first | (apply p_move <;> rfl) | (apply p_assign <;> rfl) | (apply p_add; (case hx => rfl); (case hy => rfl); (case h => omega)) | fail); (case hd => rfl)) | fail)
          subst hme
          refine v_again rfl ⟨rfl, k + 1, v1, false, ν1, l.take k ++ [l[k]], by omega, rfl, rfl, grow_add hg1, .inl ⟨rfl, by omega, (wl_a hlt).symm⟩⟩ (by simp [headI]; omega)
    · subst hme
      refine v_append (e := 50) (agg := true) (sz := 10) (bytes := 104) (zero := zE) rfl (by omega) rfl rfl hg (show List.Perm ((b, Obj.cells (x).cells.toArray 50 (0, 0)) :: (bx, Obj.cells (x).cells.toArray 50 (0, 0)) :: ν) _ from (List.perm_append_comm (l₁ := [(b, Obj.cells (x).cells.toArray 50 (0, 0)), (bx, Obj.cells (x).cells.toArray 50 (0, 0))]))) (m' := 1) (us := (x).cells) (Src.own (e := 50) (List.Mem.head _) rfl) rfl (by omega) (by simp only [maxLen]; omega) rfl fun v1 ν1 hg1 => ?_
      refine v_perm (show List.Perm (ν1 ++ [(b, Obj.cells (x).cells.toArray 50 (0, 0)), (bx, Obj.cells (x).cells.toArray 50 (0, 0))]) (((bx, Obj.cells (x).cells.toArray 50 (0, 0)) :: ν1) ++ [(b, Obj.cells (x).cells.toArray 50 (0, 0))]) from (by apply perm_of_count; intro p; simp only [List.countP_append, List.countP_cons, List.countP_nil, Nat.zero_add, Nat.add_zero]; try ac_rfl)) ?_
      refine v_drop (ν := (bx, Obj.cells (x).cells.toArray 50 (0, 0)) :: ν1) (List.sublist_append_left _ _) ?_
      repeat' (first | apply v_seq | apply v_region | apply v_nil | (apply v_pure; (case hop => first | (apply p_move <;> rfl) | (apply p_assign <;> rfl) | fail); (case hd => rfl)) | fail)
      refine v_ret ν1 (outsA1 rfl rfl) (by repeat (first | exact List.Sublist.refl _ | apply List.Sublist.cons | fail)) ?_
      have hk' : k = l.length := by omega
      have hg2 := grow_add hg1
      rw [hk', List.take_length] at hg2
      refine ⟨rfl, ?_⟩
      rw [wl_e (by omega)]
      exact hg2
  · repeat' (first | apply v_seq | apply v_region | apply v_nil | apply v_skip | apply v_block | (apply v_exit; (case hp => rfl)) | (apply v_pure; (case hop => first | (apply p_move <;> rfl) | (apply p_lt <;> rfl) | (apply p_assign <;> rfl) | (apply p_not <;> rfl) | (apply p_lenSlice <;> rfl) | fail); (case hd => rfl)) | (apply v_condF; (case hc => rfl)) | (apply v_cond; (case hc => rfl); all_goals (intro h; (try simp only [reduceCtorEq, dec_true, dec_false, decide_eq_true_eq, decide_eq_false_iff_not, Bool.not_eq_true', Bool.not_eq_false', Option.isNone_iff_eq_none, beq_true, beq_false, beq_iff_eq, beq_eq_false_iff_ne, ne_eq, decide_eq_decide, Bool.not_eq_true, Bool.not_eq_false, Decidable.not_not] at h); first | skip)) | fail)
    · have hlt : k < l.length := by omega
      refine d_start _ (by kernel_rfl) (by kernel_rfl) (fun _ he => he) ?_
      all_goals (first | (apply d_take 0; (case hi => rfl); (case hop => first | (apply PureOp.read; apply p_move <;> rfl)); (case hf => kernel_rfl); (case hr => kernel_rfl); (case hd => rfl)) | fail)
      all_goals (first | (apply d_take 1; (case hi => rfl); (case hop => first | (apply PureOp.read; apply p_not <;> rfl)); (case hf => kernel_rfl); (case hr => kernel_rfl); (case hd => rfl)) | fail)
      all_goals (first | (apply d_take 2; (case hi => rfl); (case hop => first | (apply PureOp.read; apply p_move <;> rfl)); (case hf => kernel_rfl); (case hr => kernel_rfl); (case hd => rfl)) | fail)
      all_goals (try (apply d_guardB 3; (case hi => rfl); (case hgd => rfl); (case h1 => rfl); (case h2 => first | rfl); all_goals (intro h; (try simp only [reduceCtorEq, dec_true, dec_false, decide_eq_true_eq, decide_eq_false_iff_not, Bool.not_eq_true', Bool.not_eq_false', Option.isNone_iff_eq_none, beq_true, beq_false, beq_iff_eq, beq_eq_false_iff_ne, ne_eq, decide_eq_decide, Bool.not_eq_true, Bool.not_eq_false, Decidable.not_not] at h); first | done | skip)))
      all_goals (first | (apply d_pass 3; (case hi => rfl); (case hg => rfl); (case hn => rfl); (case hf => kernel_rfl); (case hr => kernel_rfl); (case hd => rfl)) | fail)
      all_goals (try (apply d_guardB 4; (case hi => rfl); (case hgd => rfl); (case h1 => rfl); (case h2 => first | rfl); all_goals (intro h; (try simp only [reduceCtorEq, dec_true, dec_false, decide_eq_true_eq, decide_eq_false_iff_not, Bool.not_eq_true', Bool.not_eq_false', Option.isNone_iff_eq_none, beq_true, beq_false, beq_iff_eq, beq_eq_false_iff_ne, ne_eq, decide_eq_decide, Bool.not_eq_true, Bool.not_eq_false, Decidable.not_not] at h); first | done | skip)))
      all_goals (first | (apply d_pass 4; (case hi => rfl); (case hg => rfl); (case hn => rfl); (case hf => kernel_rfl); (case hr => kernel_rfl); (case hd => rfl)) | fail)
      all_goals (try (apply d_guardB 5; (case hi => rfl); (case hgd => rfl); (case h1 => rfl); (case h2 => first | rfl); all_goals (intro h; (try simp only [reduceCtorEq, dec_true, dec_false, decide_eq_true_eq, decide_eq_false_iff_not, Bool.not_eq_true', Bool.not_eq_false', Option.isNone_iff_eq_none, beq_true, beq_false, beq_iff_eq, beq_eq_false_iff_ne, ne_eq, decide_eq_decide, Bool.not_eq_true, Bool.not_eq_false, Decidable.not_not] at h); first | done | skip)))
      all_goals (first | (apply d_pass 5; (case hi => rfl); (case hg => rfl); (case hn => rfl); (case hf => kernel_rfl); (case hr => kernel_rfl); (case hd => rfl)) | fail)
      all_goals (try (apply d_guardB 6; (case hi => rfl); (case hgd => rfl); (case h1 => rfl); (case h2 => first | rfl); all_goals (intro h; (try simp only [reduceCtorEq, dec_true, dec_false, decide_eq_true_eq, decide_eq_false_iff_not, Bool.not_eq_true', Bool.not_eq_false', Option.isNone_iff_eq_none, beq_true, beq_false, beq_iff_eq, beq_eq_false_iff_ne, ne_eq, decide_eq_decide, Bool.not_eq_true, Bool.not_eq_false, Decidable.not_not] at h); first | done | skip)))
      all_goals (first | (apply d_pass 6; (case hi => rfl); (case hg => rfl); (case hn => rfl); (case hf => kernel_rfl); (case hr => kernel_rfl); (case hd => rfl)) | fail)
      all_goals (try (apply d_guardB 7; (case hi => rfl); (case hgd => rfl); (case h1 => rfl); (case h2 => first | rfl); all_goals (intro h; (try simp only [reduceCtorEq, dec_true, dec_false, decide_eq_true_eq, decide_eq_false_iff_not, Bool.not_eq_true', Bool.not_eq_false', Option.isNone_iff_eq_none, beq_true, beq_false, beq_iff_eq, beq_eq_false_iff_ne, ne_eq, decide_eq_decide, Bool.not_eq_true, Bool.not_eq_false, Decidable.not_not] at h); first | done | skip)))
      all_goals (first | (apply d_pass 7; (case hi => rfl); (case hg => rfl); (case hn => rfl); (case hf => kernel_rfl); (case hr => kernel_rfl); (case hd => rfl)) | fail)
      all_goals (try (apply d_guardB 8; (case hi => rfl); (case hgd => rfl); (case h1 => rfl); (case h2 => first | rfl); all_goals (intro h; (try simp only [reduceCtorEq, dec_true, dec_false, decide_eq_true_eq, decide_eq_false_iff_not, Bool.not_eq_true', Bool.not_eq_false', Option.isNone_iff_eq_none, beq_true, beq_false, beq_iff_eq, beq_eq_false_iff_ne, ne_eq, decide_eq_decide, Bool.not_eq_true, Bool.not_eq_false, Decidable.not_not] at h); first | done | skip)))
      all_goals (first | (apply d_pass 8; (case hi => rfl); (case hg => rfl); (case hn => rfl); (case hf => kernel_rfl); (case hr => kernel_rfl); (case hd => rfl)) | fail)
      all_goals (try (apply d_guardB 9; (case hi => rfl); (case hgd => rfl); (case h1 => rfl); (case h2 => first | rfl); all_goals (intro h; (try simp only [reduceCtorEq, dec_true, dec_false, decide_eq_true_eq, decide_eq_false_iff_not, Bool.not_eq_true', Bool.not_eq_false', Option.isNone_iff_eq_none, beq_true, beq_false, beq_iff_eq, beq_eq_false_iff_ne, ne_eq, decide_eq_decide, Bool.not_eq_true, Bool.not_eq_false, Decidable.not_not] at h); first | done | skip)))
      all_goals (first | (apply d_pass 9; (case hi => rfl); (case hg => rfl); (case hn => rfl); (case hf => kernel_rfl); (case hr => kernel_rfl); (case hd => rfl)) | fail)
      all_goals (try (apply d_guardB 10; (case hi => rfl); (case hgd => rfl); (case h1 => rfl); (case h2 => first | rfl); all_goals (intro h; (try simp only [reduceCtorEq, dec_true, dec_false, decide_eq_true_eq, decide_eq_false_iff_not, Bool.not_eq_true', Bool.not_eq_false', Option.isNone_iff_eq_none, beq_true, beq_false, beq_iff_eq, beq_eq_false_iff_ne, ne_eq, decide_eq_decide, Bool.not_eq_true, Bool.not_eq_false, Decidable.not_not] at h); first | done | skip)))
      all_goals (first | (apply d_pass 10; (case hi => rfl); (case hg => rfl); (case hn => rfl); (case hf => kernel_rfl); (case hr => kernel_rfl); (case hd => rfl)) | fail)
      all_goals (first | (apply d_take 11; (case hi => rfl); (case hop => first | (apply PureOp.read; apply p_pickF <;> rfl) | fail); (case hf => kernel_rfl); (case hr => kernel_rfl); (case hd => rfl)) | fail)
      all_goals (apply d_done; (case hr => kernel_rfl))
      repeat' (first | apply v_seq | apply v_skip | (apply v_condF; (case hc => rfl)) | fail)
      refine d_start _ (by kernel_rfl) (by kernel_rfl) (fun _ he => he) ?_
      all_goals (first | (apply d_take 0; (case hi => rfl); (case hop => first | (apply PureOp.read; apply p_move <;> rfl)); (case hf => kernel_rfl); (case hr => kernel_rfl); (case hd => rfl)) | fail)
      all_goals (first | (apply d_take 1; (case hi => rfl); (case hop => first | (apply PureOp.read; apply p_move <;> rfl)); (case hf => kernel_rfl); (case hr => kernel_rfl); (case hd => rfl)) | fail)
      all_goals (first | (apply d_take 2; (case hi => rfl); (case hop => first | (apply PureOp.read; apply p_indexAddrS; (case hx => rfl); (case hi => rfl); (case h0 => omega); (case h => omega); (case hA => first | (apply_assumption; omega)))); (case hf => kernel_rfl); (case hr => kernel_rfl); (case hd => rfl)) | fail)
      all_goals (first | (apply d_take 3; (case hi => rfl); (case hop => first | (apply PureOp.read; apply p_fieldAddr <;> rfl)); (case hf => kernel_rfl); (case hr => kernel_rfl); (case hd => rfl)) | fail)
      all_goals (first | (apply d_take 4; (case hi => rfl); (case hop => first | ((apply r_load1; rfl; exact Cell.frozen (esCell hcp _ (by omega)))) | fail); (case hf => kernel_rfl); (case hr => kernel_rfl); (case hd => rfl)) | fail)
      all_goals (first | (apply d_take 5; (case hi => rfl); (case hop => first | (apply PureOp.read; apply p_fieldAddrB <;> rfl) | fail); (case hf => kernel_rfl); (case hr => kernel_rfl); (case hd => rfl)) | fail)
      all_goals (first | (apply d_take 6; (case hi => rfl); (case hop => first | (apply r_load1; rfl; (apply Cell.own; (case h => (repeat (first | exact List.Mem.head _ | fail))); rfl)) | fail); (case hf => kernel_rfl); (case hr => kernel_rfl); (case hd => rfl)) | fail)
      all_goals (first | (apply d_take 7; (case hi => rfl); (case hop => first | (apply PureOp.read; apply p_ne <;> rfl) | fail); (case hf => kernel_rfl); (case hr => kernel_rfl); (case hd => rfl)) | fail)
      all_goals (apply d_done; (case hr => kernel_rfl))
      repeat' (first | apply v_region | apply v_nil | apply v_skip | apply v_blk | (apply v_pure; (case hop => first | (apply p_move <;> rfl) | (apply p_assign <;> rfl) | (apply p_add; (case hx => rfl); (case hy => rfl); (case h => omega)) | (apply p_indexAddrS; (case hx => rfl); (case hi => rfl); (case h0 => omega); (case h => omega); (case hA => first | (apply_assumption; omega))) | fail); (case hd => rfl)) | (apply v_cond; (case hc => rfl); all_goals (intro h; (try simp only [reduceCtorEq, dec_true, dec_false, decide_eq_true_eq, decide_eq_false_iff_not, Bool.not_eq_true', Bool.not_eq_false', Option.isNone_iff_eq_none, beq_true, beq_false, beq_iff_eq, beq_eq_false_iff_ne, ne_eq, decide_eq_decide, Bool.not_eq_true, Bool.not_eq_false, Decidable.not_not] at h); first | skip)) | (apply v_read; (case hop => first | (apply r_loadN; rfl; exact CellsAt.frozen (hcp _ (by omega)); rfl)); (case hd => rfl)) | (apply v_buildSlice; (case hz => rfl); (case hi => rfl); (case hv => (simp only [List.map_cons, List.map_nil]; repeat (first | with_reducible exact evs_nil | (apply evs_cons; (case h1 => rfl))))); (case hp => (first | (apply pk_cons; (case hc => rfl); (case hs => rfl); (case h => (first | with_reducible exact pk_nil | fail)); (case he => (first | ((repeat (first | with_reducible exact ap_nil | apply ap_cons)); done) | fail))) | fail)); (case hb => rfl); (case hd => rfl); intro b) | fail)
      · subst hme
        refine v_append (e := 50) (agg := true) (sz := 10) (bytes := 104) (zero := zE) rfl (by omega) rfl rfl hg (show List.Perm ((b, Obj.cells (l[k]'hlt).cells.toArray 50 (0, 0)) :: (bx, Obj.cells (x).cells.toArray 50 (0, 0)) :: ν) _ from (List.perm_append_comm (l₁ := [(b, Obj.cells (l[k]'hlt).cells.toArray 50 (0, 0)), (bx, Obj.cells (x).cells.toArray 50 (0, 0))]))) (m' := 1) (us := (l[k]'hlt).cells) (Src.own (e := 50) (List.Mem.head _) rfl) rfl (by omega) (by simp only [maxLen]; omega) rfl fun v1 ν1 hg1 => ?_
        refine v_perm (show List.Perm (ν1 ++ [(b, Obj.cells (l[k]'hlt).cells.toArray 50 (0, 0)), (bx, Obj.cells (x).cells.toArray 50 (0, 0))]) (((bx, Obj.cells (x).cells.toArray 50 (0, 0)) :: ν1) ++ [(b, Obj.cells (l[k]'hlt).cells.toArray 50 (0, 0))]) from (by apply perm_of_count; intro p; simp only [List.countP_append, List.countP_cons, List.countP_nil, Nat.zero_add, Nat.add_zero]; try ac_rfl)) ?_
        refine v_drop (ν := (bx, Obj.cells (x).cells.toArray 50 (0, 0)) :: ν1) (List.sublist_append_left _ _) ?_
        repeat' (first | apply v_region | apply v_nil | apply v_blk | (apply v_pure; (case hop => first | (apply p_move <;> rfl) | (apply p_assign <;> rfl) | (apply p_add; (case hx => rfl); (case hy => rfl); (case h => omega)) | fail); (case hd => rfl)) | fail)
        refine v_again rfl ⟨rfl, k + 1, v1, true, ν1, _, by omega, rfl, rfl, grow_add hg1, .inr ⟨rfl, by omega, ?_⟩⟩ (by simp [headI]; omega)
        rw [wl_d hpp hkp hlt]
      · exfalso
        have h1 := hr p k hlt hkp
        have h2 := mt (hpl p (by omega)).2 (by omega)
        simp only [e1] at *
        omega
    · refine v_ret ν (outsA1 rfl rfl) (by repeat (first | exact List.Sublist.refl _ | apply List.Sublist.cons | fail)) ?_
      refine ⟨rfl, ?_⟩
      subst hme
      rw [List.take_of_length_le (by rw [hwl]; split <;> omega)] at hg
      exact hg
end Go.Proofs.YtnoiahlpmgbhfaaDoor
/-
  entry (layer 12), in plain Lean: lists with one more.
-/
set_option linter.unusedSimpArgs false
set_option linter.unusedVariables false
namespace Go.Proofs.YtnoiahlpmgbhfaaDoor
open Go.Vx Go.ChangeShapes Go.WideShapes Go.ChangeAt Go.RowKit
theorem get_of {W l : List Ent} {a b : Nat} (h : W[a]? = l[b]?) (ha : a < W.length) : ∃ hb : b < l.length, W[a] = l[b] := by
  rw [List.getElem?_eq_getElem ha] at h
  obtain ⟨hb, e⟩ := List.getElem?_eq_some_iff.1 h.symm
  exact ⟨hb, e.symm⟩
theorem withL_lo' {l : List Ent} {x : Ent} {k : Nat} (hk : k < placeN l x.index) : (withL l x)[k]? = l[k]? := by
  have h := congrArg (·[k]?) (withL_lo (l := l) (x := x) (k := k + 1) hk)
  simpa [List.getElem?_take] using h
theorem withL_x {l : List Ent} {x : Ent} {k : Nat} (hk : k = placeN l x.index) (h : k < (withL l x).length) : (withL l x)[k] = x := by
  have h1 := withL_at l x
  rw [← hk, List.getElem?_eq_getElem h] at h1
  exact Option.some.inj h1
theorem withL_rise {l : List Ent} {x : Ent} (hr : RiseL l) : RiseL (withL l x) := by
  refine rise_of_step fun i hi h0 => ?_
  by_cases h1 : i < placeN l x.index
  · obtain ⟨ha, ea⟩ := get_of (withL_lo' h1) hi
    obtain ⟨hb, eb⟩ := get_of (withL_lo' (k := i - 1) (by omega)) (show i - 1 < (withL l x).length by omega)
    rw [ea, eb]
    exact hr _ _ ha (by omega)
  by_cases h2 : i = placeN l x.index
  · obtain ⟨hb, eb⟩ := get_of (withL_lo' (k := i - 1) (by omega)) (show i - 1 < (withL l x).length by omega)
    rw [withL_x h2 hi, eb]
    exact (placeN_lt hr hb).1 (by omega)
  by_cases hh : hitB l x.index = true
  · obtain ⟨ha, ea⟩ := get_of (withL_hi (by omega) hh) hi
    by_cases h3 : i - 1 = placeN l x.index
    · have h4 := hitB_index hh
      rw [withL_x h3 (by omega), ea, ← h4]
      exact hr _ _ ha (by omega)
    · obtain ⟨hb, eb⟩ := get_of (withL_hi (k := i - 1) (by omega) hh) (show i - 1 < (withL l x).length by omega)
      rw [ea, eb]
      exact hr _ _ ha (by omega)
  · have e0 : i = (i - 1) + 1 := by omega
    obtain ⟨ha, ea⟩ := get_of (a := i) (b := i - 1) (by have := withL_hi' (l := l) (x := x) (k := i - 1) (by omega) hh; rwa [← e0] at this) hi
    by_cases h3 : i - 1 = placeN l x.index
    · rw [withL_x h3 (by omega), ea]
      have h4 := mt (placeN_lt hr ha).2 (show ¬ i - 1 < placeN l x.index by omega)
      have h5 : l[i - 1].index ≠ x.index := fun e => hh (by rw [← e]; exact hitB_at hr ha)
      omega
    · obtain ⟨hb, eb⟩ := get_of (a := i - 1) (b := i - 2) (by have := withL_hi' (l := l) (x := x) (k := i - 2) (by omega) hh; rwa [show i - 2 + 1 = i - 1 by omega] at this) (show i - 1 < (withL l x).length by omega)
      rw [ea, eb]
      exact hr _ _ ha (by omega)
theorem withL_ok {l : List Ent} {x : Ent} (hl : ∀ y ∈ l, y.ok) (hx : x.ok) : ∀ y ∈ withL l x, y.ok := by
  intro y hy
  by_cases h : hitB l x.index = true
  · rw [withL_hit h] at hy
    rcases List.mem_or_eq_of_mem_set hy with h1 | h1
    · exact hl y h1
    · rw [h1]; exact hx
  · rw [withL_no h] at hy
    rcases List.mem_append.1 hy with h1 | h1
    · exact hl y (List.mem_of_mem_take h1)
    · rcases List.mem_cons.1 h1 with h2 | h2
      · rw [h2]; exact hx
      · exact hl y (List.mem_of_mem_drop h2)
theorem withL_plt (l : List Ent) (x : Ent) : placeN l x.index < (withL l x).length := (List.getElem?_eq_some_iff.1 (withL_at l x)).1
theorem withL_hitB {l : List Ent} {x : Ent} (hr : RiseL l) : hitB (withL l x) x.index = true := by
  have h := hitB_at (withL_rise (x := x) hr) (withL_plt l x)
  rwa [withL_x rfl (withL_plt l x)] at h
theorem withL_find {l : List Ent} {x : Ent} (hr : RiseL l) : findE (withL l x) x.index = x := by
  have hh := withL_hitB (x := x) hr
  rw [findE, dif_pos hh]
  have hp := placeN_at (withL_rise (x := x) hr) (withL_plt l x)
  rw [withL_x rfl (withL_plt l x)] at hp
  exact withL_x hp _
end Go.Proofs.YtnoiahlpmgbhfaaDoor
/-
  pack, the third part: raw bytes.
-/
set_option linter.unusedSimpArgs false
set_option linter.unusedVariables false
namespace Go.Proofs.YtnoiahlpmgbhfaaDoor
open Go.Vx Go.ChangeShapes Go.WideShapes Go.ChangeAt Go.RowKit
theorem wraw_s {G : GH} {l bl : List Int} {sv bv : Value} (wb : Nat) (hs : Sl G 1 (IntR .u8) sv l) (hb : Sl G 1 (IntR .u8) bv bl) (hl : l.length ≤ 100000) (hbl : bl.length ≤ 100000) :
    Con Tryd.prog 86 #[.pointer (some ⟨wb, 0, none⟩), bv] G [(wb, .cells [sv].toArray 66 (0, 0))]
      (fun r G' μ' => ∃ v', μ' = [(wb, .cells [v'].toArray 66 (0, 0))] ∧ Sl G' 1 (IntR .u8) v' (l ++ vbytes bl.length ++ bl)) := by
  obtain ⟨A, c, rfl, hlc, hcm, hsome, hel, hwf⟩ := hs.openInt
  have hvl : (l ++ vbytes bl.length).length ≤ 200000 := by
    have := (vbytes_len (bl.length : Nat)).1
    rw [List.length_append]
    omega
  have hsb := fun μ => Src.ints (μ := μ) hb
  have hwfb := hb.openInt
  obtain ⟨A2, c2, rfl, hlc2, hcm2, -, -, hwf2⟩ := hwfb
  simp only [maxLen] at hcm2
  refine v_enter Tryd.func86 rfl Tryd.ntmps86 rfl (fun B => ?_)
  repeat' (first | apply v_seq | apply v_region | apply v_nil | (apply v_pure; (case hop => first | (apply p_move <;> rfl) | (apply p_lenSlice <;> rfl) | (apply p_fieldAddrB <;> rfl) | (apply p_nilCheck <;> rfl) | (apply p_neNil <;> rfl) | fail); (case hd => rfl)) | (apply v_condT; (case hc => rfl)) | (apply v_read; (case hop => first | (apply r_load1; rfl; (apply Cell.own; (case h => (repeat (first | exact List.Mem.head _ | fail))); rfl)) | fail); (case hd => rfl)) | fail)
  refine v_call (μ1 := []) (μ2 := _) rfl (put_s (bl.length : Nat) hs (by omega) (by omega)) (List.Perm.refl _) rfl ?_
  rintro r G' μ1 - ⟨rfl, hg⟩
  repeat' (first | (apply v_pure; (case hop => first | (apply p_move <;> rfl) | fail); (case hd => rfl)) | fail)
  refine v_append (e := 5) (sz := 1) (zero := .int .u8 0) rfl (by omega) rfl rfl hg (List.Perm.refl _) (hsb _) (allOne_ints bl) (by omega) (by simp only [maxLen]; omega) rfl fun v' ν' hg' => ?_
  obtain ⟨A1, c1, rfl, _⟩ := hg'.shape
  refine v_frz ν' (by repeat (first | exact PickA.here _ | fail)) ?_
  intro G1 hle hG
  repeat' (first | apply v_nil | (apply v_pure; (case hop => first | (apply p_fieldAddrB <;> rfl) | (apply p_nilCheck <;> rfl) | fail); (case hd => rfl)) | (apply v_store; (case hp => rfl); (case hx => rfl); (case hc => rfl); (case hsz => rfl); (case h1 => rfl); (case hb => (repeat (first | exact List.Mem.head _ | fail))); (case hfit => first | exact Nat.le_of_ble_eq_true rfl | fail); (case hov => (first | ((repeat (first | with_reducible exact ov_nil | apply ov_cons | fail)); done) | fail)); (case hu => repeat (first | exact Upd.here _ _ | fail))) | fail)
  refine v_end [(wb, _)] (outsA0 rfl) (by repeat (first | exact List.Sublist.refl _ | fail)) ?_
  refine ⟨_, rfl, ?_⟩
  rw [← List.map_append, ← List.length_append] at hg'
  rw [← List.length_append]
  refine hg'.ints hG fun x hx => ?_
  rcases List.mem_append.1 hx with hx | hx
  · rcases List.mem_append.1 hx with hx | hx
    · exact hwf x hx
    · exact vbytes_wf (by omega) x hx
  · exact hwf2 x hx
end Go.Proofs.YtnoiahlpmgbhfaaDoor
/-
  pack, the fourth part: texts.
-/
set_option linter.unusedSimpArgs false
set_option linter.unusedVariables false
namespace Go.Proofs.YtnoiahlpmgbhfaaDoor
open Go.Vx Go.ChangeShapes Go.WideShapes Go.ChangeAt Go.RowKit
/-- The bytes of a string, as numbers. -/
def sbytes (s : ByteArray) : List Int := s.data.toList.map fun b => (b.toNat : Int)
theorem sbytes_length (s : ByteArray) : (sbytes s).length = s.size := by
  rw [sbytes, List.length_map, Array.length_toList]
  rfl
attribute [local semireducible] MoveOp in
theorem m_convSB {P : Program} {ty src dst e : TypeId} {σ : Env} {G : GH} {μ : OH} {x : Operand} {s : ByteArray} (hS : P.underlying src = some .string) (hD : P.underlying dst = some (.slice e)) (hE : P.underlying e = some (.int .u8)) (hx : Env.ev σ x = some (.string s)) (hs : s.size ≤ maxLen) :
    MoveOp P (.convert src dst x) ty σ G μ (fun v' G' μ' => ∃ b cap m, v' = .slice (some ⟨b, 0, none⟩) s.size cap ∧ s.size ≤ cap ∧ cap ≤ maxLen ∧ G' = G ∧ μ' = (b, .cells (bytesRow s cap) e m) :: μ) := by
  intro dst' pos af g ρ hρ w hw a K Q hK
  have hr := run_bytes_of_string (P := P) w src dst e s hS hD hE
  have hex : (execOp ρ ⟨dst', .convert src dst x, ty, pos, af, g⟩).run P w = .ok (.value (.slice (some ⟨w.heap.size, 0, none⟩) s.size (grownCap w s.size 0 e)))
      (w.drew.alloc (.cells (bytesRow s (grownCap w s.size 0 e)) e ((bytesRow s (grownCap w s.size 0 e)).size, (bytesRow s (grownCap w s.size 0 e)).size + 1))) := by
    simp [execOp, hρ _ _ hx, hr]
  rw [hex]
  have hst := (Step.drew hw 1).trans (Step.alloc (Step.drew hw 1).mem (.cells (bytesRow s (grownCap w s.size 0 e)) e ((bytesRow s (grownCap w s.size 0 e)).size, (bytesRow s (grownCap w s.size 0 e)).size + 1)))
  exact hK _ _ G _ hst ⟨_, _, _, rfl, grownCap_ge w s.size 0 e, grownCap_le_maxLen w s.size 0 e hs, rfl, rfl⟩
theorem sl_bytes {G : GH} {b cap : Nat} {s : ByteArray} {e : TypeId} {m : Nat × Nat} (h : G b = some (.cells (bytesRow s cap) e m)) (h1 : s.size ≤ cap) (h2 : cap ≤ maxLen) : Sl G 1 (IntR .u8) (.slice (some ⟨b, 0, none⟩) s.size cap) (sbytes s) := by
  refine ⟨some ⟨b, 0, none⟩, cap, by rw [sbytes_length], by rw [sbytes_length]; exact h1, h2, fun h0 => ⟨_, rfl, fun i y hy => ?_⟩⟩
  have hi : i < s.data.size := by
    have := (List.getElem?_eq_some_iff.1 hy).1
    rw [sbytes_length] at this
    exact this
  simp only [sbytes, List.getElem?_map, Array.getElem?_toList, Array.getElem?_eq_getElem hi, Option.map_some, Option.some.injEq] at hy
  subst hy
  refine ⟨[.int .u8 ((s.data[i]).toNat : Int)], rfl, ⟨rfl, ?_⟩, ?_⟩
  · have := (s.data[i]).toNat_lt
    exact WalkArith.wf_u8 (by omega)
  · intro j u hu
    have hj : j = 0 := by have := (List.getElem?_eq_some_iff.1 hu).1; simp at this; exact this
    subst hj
    simp only [List.getElem?_cons_zero, Option.some.injEq] at hu
    subst hu
    rw [add_mk, add_mk]
    simp only [GH.cell?, h, Option.isSome_none, Bool.false_eq_true, if_false, Nat.zero_add, Nat.mul_one, Nat.add_zero]
    exact bytesRow_at s cap i hi
theorem wtext_s {G : GH} {l : List Int} {sv : Value} (wb : Nat) (s : ByteArray) (hs : Sl G 1 (IntR .u8) sv l) (hl : l.length ≤ 100000) (hz : s.size ≤ 100000) :
    Con Tryd.prog 154 #[.pointer (some ⟨wb, 0, none⟩), .string s] G [(wb, .cells [sv].toArray 66 (0, 0))]
      (fun r G' μ' => ∃ v', μ' = [(wb, .cells [v'].toArray 66 (0, 0))] ∧ Sl G' 1 (IntR .u8) v' (l ++ vbytes s.size ++ sbytes s)) := by
  refine v_enter Tryd.func154 rfl Tryd.ntmps154 rfl (fun B => ?_)
  repeat' (first | apply v_seq | apply v_region | apply v_nil | apply v_skip | apply v_block | apply v_blk | (apply v_exit; (case hp => rfl)) | (apply v_take; (case hg => rfl)) | (apply v_pass; (case hg => rfl); (case hn => rfl); (case hd => rfl)) | (apply v_passN; (case hg => rfl); (case hn => rfl); (case hd => rfl)) | (apply v_pure; (case hop => first | (apply p_move <;> rfl) | (apply p_convS <;> rfl) | (apply p_convB <;> rfl) | (apply p_conv64; (case hx => rfl); (case h => omega))); (case hd => rfl)) | (apply v_condT; (case hc => rfl)) | (apply v_condF; (case hc => rfl)) | (apply v_cond; (case hc => rfl); all_goals (intro h; (try simp only [reduceCtorEq, dec_true, dec_false, decide_eq_true_eq, decide_eq_false_iff_not, Bool.not_eq_true', Bool.not_eq_false', Option.isNone_iff_eq_none, beq_true, beq_false, beq_iff_eq, beq_eq_false_iff_ne, ne_eq, decide_eq_decide, Bool.not_eq_true, Bool.not_eq_false, Decidable.not_not] at h); first | done | (exfalso; omega) | (exfalso; exact h (by with_reducible assumption)) | (exfalso; revert h; rw [imp_false]; with_reducible assumption) | skip)) | (apply v_guardB; (case h1 => rfl); (case h2 => rfl); all_goals (intro h; (try simp only [reduceCtorEq, dec_true, dec_false, decide_eq_true_eq, decide_eq_false_iff_not, Bool.not_eq_true', Bool.not_eq_false', Option.isNone_iff_eq_none, beq_true, beq_false, beq_iff_eq, beq_eq_false_iff_ne, ne_eq, decide_eq_decide, Bool.not_eq_true, Bool.not_eq_false, Decidable.not_not] at h); first | done | (exfalso; omega) | (exfalso; exact h (by with_reducible assumption)) | (exfalso; revert h; rw [imp_false]; with_reducible assumption) | skip)) | fail)
  refine v_move (m_convSB Tryd.underlying9 Tryd.underlying22 Tryd.underlying5 rfl (by simp only [maxLen]; omega)) rfl ?_
  rintro v G' μ' ⟨b, cap, m, rfl, h1, h2, rfl, rfl⟩
  refine v_freeze1 fun G1 hle hb => ?_
  have hsb := sl_bytes hb h1 h2
  repeat' (first | apply v_seq | apply v_region | apply v_nil | apply v_skip | apply v_block | apply v_blk | (apply v_exit; (case hp => rfl)) | (apply v_take; (case hg => rfl)) | (apply v_pass; (case hg => rfl); (case hn => rfl); (case hd => rfl)) | (apply v_passN; (case hg => rfl); (case hn => rfl); (case hd => rfl)) | (apply v_pure; (case hop => first | (apply p_move <;> rfl) | (apply p_convS <;> rfl) | (apply p_convB <;> rfl) | (apply p_conv64; (case hx => rfl); (case h => omega))); (case hd => rfl)) | (apply v_condT; (case hc => rfl)) | (apply v_condF; (case hc => rfl)) | (apply v_cond; (case hc => rfl); all_goals (intro h; (try simp only [reduceCtorEq, dec_true, dec_false, decide_eq_true_eq, decide_eq_false_iff_not, Bool.not_eq_true', Bool.not_eq_false', Option.isNone_iff_eq_none, beq_true, beq_false, beq_iff_eq, beq_eq_false_iff_ne, ne_eq, decide_eq_decide, Bool.not_eq_true, Bool.not_eq_false, Decidable.not_not] at h); first | done | (exfalso; omega) | (exfalso; exact h (by with_reducible assumption)) | (exfalso; revert h; rw [imp_false]; with_reducible assumption) | skip)) | (apply v_guardB; (case h1 => rfl); (case h2 => rfl); all_goals (intro h; (try simp only [reduceCtorEq, dec_true, dec_false, decide_eq_true_eq, decide_eq_false_iff_not, Bool.not_eq_true', Bool.not_eq_false', Option.isNone_iff_eq_none, beq_true, beq_false, beq_iff_eq, beq_eq_false_iff_ne, ne_eq, decide_eq_decide, Bool.not_eq_true, Bool.not_eq_false, Decidable.not_not] at h); first | done | (exfalso; omega) | (exfalso; exact h (by with_reducible assumption)) | (exfalso; revert h; rw [imp_false]; with_reducible assumption) | skip)) | fail)
  have qr := wraw_s wb (hs.mono hle) hsb hl (by rw [sbytes_length]; omega)
  rw [sbytes_length] at qr
  refine v_call (μ1 := [(wb, _)]) (μ2 := _) rfl qr (List.Perm.refl _) rfl ?_
  rintro r G2 μ2 - ⟨v', rfl, hv⟩
  repeat' (first | apply v_seq | apply v_region | apply v_nil | apply v_skip | apply v_block | apply v_blk | (apply v_exit; (case hp => rfl)) | (apply v_take; (case hg => rfl)) | (apply v_pass; (case hg => rfl); (case hn => rfl); (case hd => rfl)) | (apply v_passN; (case hg => rfl); (case hn => rfl); (case hd => rfl)) | (apply v_pure; (case hop => first | (apply p_move <;> rfl) | (apply p_convS <;> rfl) | (apply p_convB <;> rfl) | (apply p_conv64; (case hx => rfl); (case h => omega))); (case hd => rfl)) | (apply v_condT; (case hc => rfl)) | (apply v_condF; (case hc => rfl)) | (apply v_cond; (case hc => rfl); all_goals (intro h; (try simp only [reduceCtorEq, dec_true, dec_false, decide_eq_true_eq, decide_eq_false_iff_not, Bool.not_eq_true', Bool.not_eq_false', Option.isNone_iff_eq_none, beq_true, beq_false, beq_iff_eq, beq_eq_false_iff_ne, ne_eq, decide_eq_decide, Bool.not_eq_true, Bool.not_eq_false, Decidable.not_not] at h); first | done | (exfalso; omega) | (exfalso; exact h (by with_reducible assumption)) | (exfalso; revert h; rw [imp_false]; with_reducible assumption) | skip)) | (apply v_guardB; (case h1 => rfl); (case h2 => rfl); all_goals (intro h; (try simp only [reduceCtorEq, dec_true, dec_false, decide_eq_true_eq, decide_eq_false_iff_not, Bool.not_eq_true', Bool.not_eq_false', Option.isNone_iff_eq_none, beq_true, beq_false, beq_iff_eq, beq_eq_false_iff_ne, ne_eq, decide_eq_decide, Bool.not_eq_true, Bool.not_eq_false, Decidable.not_not] at h); first | done | (exfalso; omega) | (exfalso; exact h (by with_reducible assumption)) | (exfalso; revert h; rw [imp_false]; with_reducible assumption) | skip)) | fail)
  refine v_end [(wb, _)] (outsA0 rfl) (by repeat (first | exact List.Sublist.refl _ | exact List.nil_sublist _ | apply List.Sublist.cons_cons | apply List.Sublist.cons | exact List.sublist_append_left _ _ | apply List.sublist_append_of_sublist_right)) ?_
  exact ⟨_, rfl, hv⟩
end Go.Proofs.YtnoiahlpmgbhfaaDoor
/-
  pack, the fifth part: a reader: a block of three cells: its bytes (frozen), where it stands, its error.
-/
set_option linter.unusedSimpArgs false
set_option linter.unusedVariables false
namespace Go.Proofs.YtnoiahlpmgbhfaaDoor
open Go.Vx Go.ChangeShapes Go.WideShapes Go.ChangeAt Go.RowKit
abbrev rdO (bv : Value) (at_ no : Int) : Obj := .cells [bv, .int .i64 at_, .int .i64 no].toArray 101 (0, 0)
theorem newReader_s {G : GH} {l : List Int} {sv : Value} (hs : Sl G 1 (IntR .u8) sv l) (hl : l.length ≤ 1048000) :
    Con Tryd.prog 40 #[sv] G [] (fun r G' μ' => GH.le G G' ∧ ∃ rb v', r = .pointer (some ⟨rb, 0, none⟩) ∧ μ' = [(rb, rdO v' 0 0)] ∧ Sl G' 1 (IntR .u8) v' l) := by
  have hwf := hs.openInt
  obtain ⟨A, c, rfl, hlc, hcm, -, -, hw⟩ := hwf
  refine v_enter Tryd.func40 rfl Tryd.ntmps40 rfl (fun B => ?_)
  repeat' (first | apply v_seq | apply v_region | apply v_nil | (apply v_pure; (case hop => first | (apply p_move <;> rfl) | (apply p_assign <;> rfl) | fail); (case hd => rfl)) | fail)
  refine v_call (μ1 := []) (μ2 := _) rfl (bclone_s hs (by omega)) (List.Perm.refl _) rfl ?_
  rintro r G' μ1 - ⟨rfl, hg⟩
  refine v_frz μ1 (by repeat (first | exact PickA.here _ | fail)) ?_
  intro G1 hle hG
  have h1 := hg.ints hG hw
  obtain ⟨A1, c1, rfl, -, -⟩ := hg.shape
  repeat' (first | apply v_nil | (apply v_pure; (case hop => first | (apply p_assign <;> rfl) | (apply p_build; (case hz => rfl); (case hv => (simp only [List.map_cons, List.map_nil]; repeat (first | with_reducible exact evs_nil | (apply evs_cons; (case h1 => rfl))))); (case hb => (apply bldL; repeat (first | exact bld_nil | (apply bld_cons; (case hpf => rfl); (case hc => rfl); (case hs => rfl); (case hl => rfl); (case ho => (first | ((repeat (first | with_reducible exact ov_nil | apply ov_cons | fail)); done) | fail)))))))); (case hd => rfl)) | (apply v_box (zs := [.slice A1 l.length c1, .int .i64 0, .int .i64 0]); (case hx => rfl); (case hz => rfl); (case hd => rfl); intro rb) | fail)
  refine v_ret [(_, _)] (outsA1 rfl rfl) (by repeat (first | exact List.Sublist.refl _ | fail)) ?_
  exact ⟨hle, _, _, rfl, rfl, h1⟩
theorem rerr_s (G : GH) (rb : Nat) (bv : Value) (at_ no : Int) : Con Tryd.prog 55 #[.pointer (some ⟨rb, 0, none⟩)] G [(rb, rdO bv at_ no)] (Keeps (.int .i64 no) G [(rb, rdO bv at_ no)]) := by
  apply Con.keeps
  refine v_enter Tryd.func55 rfl Tryd.ntmps55 rfl (fun B => ?_)
  repeat' (first | apply v_seq | apply v_region | apply v_nil | apply v_skip | (apply v_pure; (case hop => first | (apply p_move <;> rfl) | (apply p_assign <;> rfl) | (apply p_fieldAddrB <;> rfl) | (apply p_nilCheck <;> rfl) | (apply p_eqNil <;> rfl) | fail); (case hd => rfl)) | (apply v_condF; (case hc => rfl)) | (apply v_read; (case hop => first | (apply r_load1; rfl; (apply Cell.own; (case h => (repeat (first | exact List.Mem.head _ | fail))); rfl)) | fail); (case hd => rfl)) | fail)
  refine v_ret [(rb, _)] (outsA1 rfl rfl) (by repeat (first | exact List.Sublist.refl _ | fail)) ?_
  exact ⟨rfl, rfl⟩
end Go.Proofs.YtnoiahlpmgbhfaaDoor
/-
  VX, SCOPES: a scope that no goto leaves, and a label.
-/
set_option linter.unusedVariables false
set_option linter.unusedSimpArgs false
namespace Go.Vx
open Go
attribute [local semireducible] Vc
section
variable {P : Program} {fn : Func} {n : Nat} {B : Base} {Φ : Value → GH → OH → Prop} {k : List It} {σ : Env} {G : GH} {μ : OH}
theorem kont_goto {V : Value → World → Prop} {l : Nat} : ∀ (k : List It) (a : Act) (w : World), ¬ Kont P n (bodyPost P fn (Back V)) k (.goto l) a w
  | [], a, w => by simp [Kont, bodyPost]
  | .code c :: k, a, w => by simp only [Kont]; exact kont_goto k a w
  | .ops all l :: k, a, w => by simp only [Kont]; exact kont_goto k a w
  | .blk id :: k, a, w => by simp only [Kont]; exact kont_goto k a w
  | .again S I :: k, a, w => by simp only [Kont]; exact kont_goto k a w
theorem v_scope {c : Code} (h : Vc P fn n B Φ (.code c :: k) σ G μ) : Vc P fn n B Φ (.code (.scope c) :: k) σ G μ := by
  intro w hw a ha
  refine wp_scope_straight (wp_mono (h w hw a ha) fun e a' w' hq => ?_)
  cases e with
  | goto l => exact absurd hq (kont_goto k a' w')
  | normal => exact hq
  | exit id => exact hq
  | ret => exact hq
  | panic ch => exact hq
  | outgrown => exact hq
theorem v_label {l : Nat} (h : Vc P fn n B Φ k σ G μ) : Vc P fn n B Φ (.code (.label l) :: k) σ G μ := fun w hw a ha => wp_label (h w hw a ha)
end
end Go.Vx
/-
  varint (layer 1), the second part: what bytes a number is read from: no more and no fewer than its own.
-/
set_option linter.unusedSimpArgs false
set_option linter.unusedVariables false
namespace Go.Proofs.YtnoiahlpmgbhfaaDoor
open Go.Vx Go.ChangeShapes Go.WideShapes Go.ChangeAt Go.RowKit
/-- A number read from bytes, k of which were read ahead; and what is left. -/
def dvk : Nat → List Int → Option (Int × List Int)
  | _, [] => none
  | k, c :: r => if (c = 0 ∧ 0 < k) ∨ 8 < k then none else if c < 128 then some (c, r) else (dvk (k + 1) r).map fun p => (c - 128 + 128 * p.1, p.2)
theorem dvk_nil (k : Nat) : dvk k [] = none := by unfold dvk; rfl
theorem dvk_cons (k : Nat) (c : Int) (r : List Int) : dvk k (c :: r) = if (c = 0 ∧ 0 < k) ∨ 8 < k then none else if c < 128 then some (c, r) else (dvk (k + 1) r).map fun p => (c - 128 + 128 * p.1, p.2) := by
  rw [dvk]
theorem pow128 (k : Nat) : (128 : Int) ^ (k + 1) = 128 * 128 ^ k := by rw [Int.pow_succ, Int.mul_comm]
theorem dvk_vb : ∀ (f k : Nat) (m : Int) (r : List Int), 8 ≤ f + k → k ≤ 8 → 0 ≤ m → m < 128 ^ (9 - k) → (0 < k → 0 < m) → dvk k (vb f m ++ r) = some (m, r)
  | 0, k, m, r, h1, h2, h3, h4, h5 => by
    have : k = 8 := by omega
    subst this
    have : m < 128 := by simpa using h4
    rw [vb, List.cons_append, List.nil_append, dvk_cons, if_neg (by omega), if_pos this]
  | f + 1, k, m, r, h1, h2, h3, h4, h5 => by
    rw [vb_succ]
    by_cases hm : m < 128
    · rw [if_pos hm, List.cons_append, List.nil_append, dvk_cons, if_neg (by omega), if_pos hm]
    · rw [if_neg hm, List.cons_append, dvk_cons, if_neg (by omega), if_neg (by omega)]
      have hk : k ≤ 7 := by
        by_cases hk : k = 8
        · subst hk
          have : m < 128 := by simpa using h4
          omega
        · omega
      have e : 9 - k = (9 - (k + 1)) + 1 := by omega
      rw [e, pow128] at h4
      rw [dvk_vb f (k + 1) (m / 128) r (by omega) (by omega) (by omega) (by omega) (by omega)]
      simp only [Option.map_some, Option.some.injEq, Prod.mk.injEq, and_true]
      omega
theorem vb_dvk : ∀ (r : List Int) (k : Nat) (m : Int) (r' : List Int), (∀ x ∈ r, 0 ≤ x ∧ x ≤ 255) → dvk k r = some (m, r') → k ≤ 8 ∧ 0 ≤ m ∧ m < 128 ^ (9 - k) ∧ (0 < k → 0 < m) ∧ ∀ f, 8 ≤ f + k → r = vb f m ++ r'
  | [], k, m, r', hw, h => by rw [dvk_nil] at h; cases h
  | c :: r, k, m, r', hw, h => by
    have hc := hw c (by simp)
    rw [dvk_cons] at h
    by_cases h1 : (c = 0 ∧ 0 < k) ∨ 8 < k
    · rw [if_pos h1] at h; cases h
    rw [if_neg h1] at h
    by_cases h2 : c < 128
    · rw [if_pos h2] at h
      cases h
      refine ⟨by omega, by omega, ?_, by omega, fun f hf => ?_⟩
      · have e : 9 - k = (8 - k) + 1 := by omega
        rw [e, pow128]
        have : (0 : Int) < 128 ^ (8 - k) := Int.pow_pos (by decide)
        omega
      · cases f with
        | zero => rfl
        | succ f => rw [vb_succ, if_pos h2]; rfl
    · rw [if_neg h2] at h
      obtain ⟨p, hp, he⟩ := Option.map_eq_some_iff.1 h
      obtain ⟨m', r2⟩ := p
      cases he
      obtain ⟨i1, i2, i3, i4, i5⟩ := vb_dvk r (k + 1) m' r2 (fun x hx => hw x (by simp [hx])) hp
      have := i4 (by omega)
      refine ⟨by omega, by omega, ?_, by omega, fun f hf => ?_⟩
      · have e : 9 - k = (9 - (k + 1)) + 1 := by omega
        rw [e, pow128]
        omega
      · cases f with
        | zero => omega
        | succ f =>
          have e1 : (c - 128 + 128 * m') % 128 + 128 = c := by omega
          have e2 : (c - 128 + 128 * m') / 128 = m' := by omega
          simp only at *
          rw [vb_succ, if_neg (by omega), e1, e2, List.cons_append, ← i5 f (by omega)]
abbrev top63 : Int := 9223372036854775807
theorem p63 : (128 : Int) ^ 9 = 9223372036854775808 := by decide
/-- A number's bytes lead back to it. -/
theorem dvk_vbytes {m : Int} (r : List Int) (h0 : 0 ≤ m) (h1 : m ≤ 9223372036854775807) : dvk 0 (vbytes m ++ r) = some (m, r) := by
  have e : max m 0 = m := by omega
  rw [vbytes, e]
  refine dvk_vb 10 0 m r (by omega) (by omega) h0 ?_ (by omega)
  rw [show 9 - 0 = 9 from rfl, p63]
  omega
theorem vbytes_dvk {r : List Int} {m : Int} {r' : List Int} (hw : ∀ x ∈ r, 0 ≤ x ∧ x ≤ 255) (h : dvk 0 r = some (m, r')) : 0 ≤ m ∧ m ≤ 9223372036854775807 ∧ r = vbytes m ++ r' := by
  obtain ⟨-, h0, h1, -, h2⟩ := vb_dvk r 0 m r' hw h
  rw [show 9 - 0 = 9 from rfl, p63] at h1
  have e : max m 0 = m := by omega
  refine ⟨h0, by omega, ?_⟩
  rw [vbytes, e]
  exact h2 10 (by omega)
end Go.Proofs.YtnoiahlpmgbhfaaDoor
/-
  varint (layer 1), the third part: Get.
-/
set_option linter.unusedSimpArgs false
set_option linter.unusedVariables false
namespace Go.Proofs.YtnoiahlpmgbhfaaDoor
open Go.Vx Go.ChangeShapes Go.WideShapes Go.ChangeAt Go.RowKit
theorem and127 : ∀ a : Nat, a < 256 → (BitVec.ofNat 8 a &&& 127#8).toNat = a % 128 := by decide +kernel
theorem p_and127 {σ : Env} {ty : TypeId} {x y : Operand} {a : Int} {t t' : TypeId} (hx : Env.ev σ x = some (.int .u8 a)) (hy : Env.ev σ y = some (.int .u8 127)) (h : 0 ≤ a ∧ a ≤ 255) : PureOp Tryd.prog (.binOp .and t x y t') ty σ (.int .u8 (a % 128)) := by
  have := p_and (P := Tryd.prog) (ty := ty) (t := t) (t' := t') hx hy
  have e : IntKind.u8.wrap (BitVec.ofInt IntKind.u8.bits a &&& BitVec.ofInt IntKind.u8.bits 127).toNat = a % 128 := by
    obtain ⟨m, rfl⟩ := Int.eq_ofNat_of_zero_le h.1
    have hlt : m < 256 := by omega
    have h1 := and127 m hlt
    have e1 : BitVec.ofInt IntKind.u8.bits (m : Int) = BitVec.ofNat 8 m := by
      show BitVec.ofInt 8 (m : Int) = _
      exact BitVec.ofInt_natCast 8 m
    have e2 : BitVec.ofInt IntKind.u8.bits 127 = 127#8 := rfl
    rw [e1, e2]
    show IntKind.u8.wrap (((BitVec.ofNat 8 m &&& 127#8).toNat : Nat) : Int) = _
    rw [h1, IntKind.wrap_u8]
    omega
  rwa [e] at this
theorem p_convU64 {σ : Env} {ty : TypeId} {x : Operand} {k k'' : IntKind} {a : Int} {t u : TypeId} [Ty Tryd.prog t (.int k'')] [Ty Tryd.prog u (.int .u64)] (hx : Env.ev σ x = some (.int k a)) (h : 0 ≤ a ∧ a ≤ 9223372036854775807) : PureOp Tryd.prog (.convert t u x) ty σ (.int .u64 a) := by
  have := p_conv (P := Tryd.prog) (ty := ty) (t := t) (u := u) hx
  rw [IntKind.wrap_u64, show a % 18446744073709551616 = a by omega] at this
  exact this
theorem two7 (k : Nat) : (2 : Int) ^ (7 * k) = 128 ^ k := by rw [Int.pow_mul]; rfl
attribute [local semireducible] PureOp in
theorem p_shlU {σ : Env} {ty : TypeId} {x y : Operand} {k' : IntKind} {a s : Int} {k : Nat} {t t' : TypeId} (hx : Env.ev σ x = some (.int .u64 a)) (hy : Env.ev σ y = some (.int k' s)) (hs : s = 7 * (k : Nat)) (hk : k ≤ 8) (h : 0 ≤ a * 128 ^ k ∧ a * 128 ^ k ≤ 9223372036854775807) : PureOp Tryd.prog (.binOp .shl t x y t') ty σ (.int .u64 (a * 128 ^ k)) := by
  subst hs
  intro dst pos af g ρ hρ w
  have := shift_shl .u64 k' a (7 * (k : Nat)) (by omega) (by show _ ≤ (64 : Int); omega)
  have e : (7 * ((k : Nat) : Int)).toNat = 7 * k := by omega
  have hw : IntKind.u64.wrap (a * 128 ^ k) = a * 128 ^ k := by rw [IntKind.wrap_u64]; omega
  simp [execOp, hρ _ _ hx, hρ _ _ hy, eqGuard, binOp_shl, this]
  rw [e, two7, hw]
theorem p_orU {σ : Env} {ty : TypeId} {x y : Operand} {a b : Int} {k : Nat} {t t' : TypeId} (hx : Env.ev σ x = some (.int .u64 a)) (hy : Env.ev σ y = some (.int .u64 (b * 128 ^ k))) (h0 : 0 ≤ a) (h1 : a < 128 ^ k) (h2 : 0 ≤ b) (h3 : a + b * 128 ^ k ≤ 9223372036854775807) : PureOp Tryd.prog (.binOp .or t x y t') ty σ (.int .u64 (a + b * 128 ^ k)) := by
  have := p_or (P := Tryd.prog) (ty := ty) (t := t) (t' := t') hx hy
  have e : IntKind.u64.wrap (BitVec.ofInt IntKind.u64.bits a ||| BitVec.ofInt IntKind.u64.bits (b * 128 ^ k)).toNat = a + b * 128 ^ k := by
    obtain ⟨m, rfl⟩ := Int.eq_ofNat_of_zero_le h0
    obtain ⟨n, rfl⟩ := Int.eq_ofNat_of_zero_le h2
    have ek : (128 : Int) ^ k = ((2 ^ (7 * k) : Nat) : Int) := by rw [← two7]; simp
    rw [ek] at h1 h3 ⊢
    rw [← Int.natCast_mul] at h3 ⊢
    have hm : m < 2 ^ (7 * k) := by omega
    have hor : (m ||| n * 2 ^ (7 * k)) = m + n * 2 ^ (7 * k) := by
      rw [Nat.or_comm, Nat.mul_comm, ← Nat.two_pow_add_eq_or_of_lt hm, Nat.add_comm]
    generalize hq : n * 2 ^ (7 * k) = q at *
    have e1 : BitVec.ofInt IntKind.u64.bits (m : Int) = BitVec.ofNat 64 m := by
      show BitVec.ofInt 64 (m : Int) = _
      exact BitVec.ofInt_natCast 64 m
    have e2 : BitVec.ofInt IntKind.u64.bits (q : Int) = BitVec.ofNat 64 q := by
      show BitVec.ofInt 64 (q : Int) = _
      exact BitVec.ofInt_natCast 64 q
    rw [e1, e2]
    show IntKind.u64.wrap (((BitVec.ofNat 64 m ||| BitVec.ofNat 64 q).toNat : Nat) : Int) = _
    rw [BitVec.toNat_or, BitVec.toNat_ofNat, BitVec.toNat_ofNat, Nat.mod_eq_of_lt (by omega), Nat.mod_eq_of_lt (by omega), hor, IntKind.wrap_u64]
    omega
  rwa [e] at this
/-- What is wrong, if there is no number. -/
def dve : Nat → List Int → Int
  | _, [] => 1
  | k, c :: r => if (c = 0 ∧ 0 < k) ∨ 8 < k then 3 else if c < 128 then 0 else dve (k + 1) r
theorem dve_nil (k : Nat) : dve k [] = 1 := by unfold dve; rfl
theorem dve_cons (k : Nat) (c : Int) (r : List Int) : dve k (c :: r) = if (c = 0 ∧ 0 < k) ∨ 8 < k then 3 else if c < 128 then 0 else dve (k + 1) r := by rw [dve]
theorem dve_none : ∀ (r : List Int) (k : Nat), dvk k r = none ↔ dve k r ≠ 0
  | [], k => by rw [dvk_nil, dve_nil]; simp
  | c :: r, k => by
    rw [dvk_cons, dve_cons]
    split
    · simp
    · split
      · simp
      · rw [Option.map_eq_none_iff]; exact dve_none r (k + 1)
/-- What Get answers. -/
def GetV (l : List Int) (at_ : Nat) : Value := match dvk 0 (l.drop at_) with
  | some (m, r') => .tuple [.int .i64 m, .int .i64 (l.length - r'.length : Nat), .int .i64 0].toArray
  | none => .tuple [.int .i64 0, .int .i64 0, .int .i64 (dve 0 (l.drop at_))].toArray
def dvs (n : Int) (k : Nat) (o : Option (Int × List Int)) : Option (Int × List Int) := o.map fun p => (n + 128 ^ k * p.1, p.2)
theorem dvs_step (n : Int) (k : Nat) (c : Int) (r : List Int) (h1 : ¬ ((c = 0 ∧ 0 < k) ∨ 8 < k)) (h2 : ¬ c < 128) (hc : c ≤ 255) : dvs n k (dvk k (c :: r)) = dvs (n + c % 128 * 128 ^ k) (k + 1) (dvk (k + 1) r) := by
  rw [dvk_cons, if_neg h1, if_neg h2]
  cases dvk (k + 1) r with
  | none => rfl
  | some p =>
    simp only [dvs, Option.map_some, Option.some.injEq, Prod.mk.injEq, and_true]
    rw [pow128, show c % 128 = c - 128 by omega, Int.mul_add, Int.sub_mul, Int.mul_sub, Int.mul_comm c, Int.mul_comm 128 (128 ^ k)]
    have : (128 : Int) ^ k * (128 * p.1) = 128 ^ k * 128 * p.1 := by rw [Int.mul_assoc]
    omega
theorem stepB {n c : Int} {k : Nat} (hn : 0 ≤ n ∧ n < 128 ^ k) (hk : k ≤ 8) : 0 ≤ c % 128 * 128 ^ k ∧ n + c % 128 * 128 ^ k < 128 ^ (k + 1) ∧ n + c % 128 * 128 ^ k ≤ 9223372036854775807 := by
  have h0 : (0 : Int) < 128 ^ k := Int.pow_pos (by decide)
  have h1 : 0 ≤ c % 128 * 128 ^ k := Int.mul_nonneg (by omega) (by omega)
  have h2 : c % 128 * 128 ^ k ≤ 127 * 128 ^ k := Int.mul_le_mul_of_nonneg_right (by omega) (by omega)
  have h3 : (128 : Int) ^ (k + 1) ≤ 128 ^ 9 := by
    have : (128 : Nat) ^ (k + 1) ≤ 128 ^ 9 := Nat.pow_le_pow_right (by decide) (by omega)
    exact_mod_cast this
  rw [p63] at h3
  rw [pow128] at *
  omega
theorem dropC {l : List Int} {i : Nat} (h : i < l.length) : l.drop i = l[i] :: l.drop (i + 1) := List.drop_eq_getElem_cons h
theorem getR_some {l : List Int} {at_ : Nat} {m : Int} {r' : List Int} {e : Int} (h : dvk 0 (l.drop at_) = some (m, r')) (he : e = (l.length - r'.length : Nat)) : .tuple #[.int .i64 m, .int .i64 e, .int .i64 0] = GetV l at_ := by
  unfold GetV
  rw [h, he]
theorem getR_none {l : List Int} {at_ : Nat} {e : Int} (h : dvk 0 (l.drop at_) = none) (he : dve 0 (l.drop at_) = e) : .tuple #[.int .i64 0, .int .i64 0, .int .i64 e] = GetV l at_ := by
  unfold GetV
  rw [h, ← he]
set_option maxHeartbeats 2000000 in
theorem vget_s {G : GH} {l : List Int} {sv : Value} (at_ : Nat) (hs : Sl G 1 (IntR .u8) sv l) (hl : l.length ≤ 1048576) (ha : at_ ≤ l.length) : Con Tryd.prog 129 #[sv, .int .i64 (at_ : Nat)] G [] (Just (GetV l at_) G) := by
  obtain ⟨A, c, rfl, hlc, hcm, hsome, hel, hwf⟩ := hs.openInt
  simp only [maxLen] at hcm
  have hwf' : ∀ i (h : i < l.length), 0 ≤ l[i] ∧ l[i] ≤ 255 := fun i h => by
    have := hwf _ (List.getElem_mem h)
    simp [Lit.wf, IntKind.min, IntKind.max, IntKind.signed, IntKind.bits] at this
    omega
  refine v_enter Tryd.func129 rfl Tryd.ntmps129 rfl (fun B => ?_)
  repeat' (first | apply v_seq | apply v_region | apply v_nil | apply v_skip | apply v_block | (apply v_take; (case hg => rfl)) | (apply v_pure; (case hop => first | (apply p_move <;> rfl) | (apply p_lt <;> rfl) | (apply p_gt <;> rfl) | (apply p_assign <;> rfl) | (apply p_pickF <;> rfl) | (apply p_lenSlice <;> rfl)); (case hd => rfl)) | (apply v_cond; (case hc => rfl); all_goals (intro h; (try simp only [reduceCtorEq, dec_true, dec_false, decide_eq_true_eq, decide_eq_false_iff_not, Bool.not_eq_true', Bool.not_eq_false', Option.isNone_iff_eq_none, beq_true, beq_false, beq_iff_eq, beq_eq_false_iff_ne, ne_eq, decide_eq_decide, Bool.not_eq_true, Bool.not_eq_false, Decidable.not_not] at h); first | (exfalso; omega) | skip)) | (apply v_guardB; (case h1 => rfl); (case h2 => rfl); all_goals (intro h; (try simp only [reduceCtorEq, dec_true, dec_false, decide_eq_true_eq, decide_eq_false_iff_not, Bool.not_eq_true', Bool.not_eq_false', Option.isNone_iff_eq_none, beq_true, beq_false, beq_iff_eq, beq_eq_false_iff_ne, ne_eq, decide_eq_decide, Bool.not_eq_true, Bool.not_eq_false, Decidable.not_not] at h); first | (exfalso; omega) | skip)) | (apply v_scope) | (apply v_label))
  refine v_loopI (ι := Nat × Int) [8, 7, 0, 1] (fun x us G2 μ' => G2 = G ∧ μ' = [] ∧ us = [Value.int .i64 (at_ + x.1 : Nat), .int .u64 x.2, .slice A l.length c, .int .i64 (at_ : Nat)] ∧ at_ + x.1 ≤ l.length ∧ x.1 ≤ 9 ∧ (0 ≤ x.2 ∧ x.2 < 128 ^ x.1) ∧ x.2 ≤ 9223372036854775807 ∧ dvk 0 (l.drop at_) = dvs x.2 x.1 (dvk x.1 (l.drop (at_ + x.1))) ∧ dve 0 (l.drop at_) = dve x.1 (l.drop (at_ + x.1))) (fun x => l.length - x.1) rfl (0, 0) ⟨rfl, rfl, rfl, by simpa using ha, by simp, by simp, by simp, ?_, rfl⟩ ?_
  · simp only [dvs, Nat.add_zero, Int.zero_add, Int.pow_zero, Int.one_mul]
    cases dvk 0 (l.drop at_) <;> rfl
  rintro ⟨k, n⟩ us G2 μ' ⟨rfl, rfl, rfl, hk, hk9, hn, hn63, he, hee⟩
  simp only at hk hk9 hn hn63 he hee
  by_cases hlt : at_ + k < l.length
  · have hel' := hel _ hlt
    have hcc := hwf' _ hlt
    have hst := dvs_step n k l[at_ + k] (l.drop (at_ + k + 1))
    rw [dropC hlt] at he hee
    rw [dve_cons] at hee
    generalize hcx : l[at_ + k] = cx at *
    have hsb := stepB (n := n) (c := cx) (k := k) hn
    by_cases hk8 : k ≤ 8
    · obtain ⟨hb1, hb2, hb3⟩ := hsb hk8
      clear hsb
      try dsimp only
      repeat' (first | (apply v_pure; (case hop => (apply p_and127; (case hx => rfl); (case hy => rfl); (case h => exact hcc))); (case hd => rfl)) | (apply v_pure; (case hop => (apply p_convU64; (case hx => rfl); (case h => omega))); (case hd => rfl)) | (apply v_pure; (case hop => (apply p_shlU (k := k); (case hx => rfl); (case hy => rfl); (case hs => omega); (case hk => omega); (case h => omega))); (case hd => rfl)) | (apply v_pure; (case hop => (apply p_orU (k := k); (case hx => rfl); (case hy => rfl); (case h0 => omega); (case h1 => exact hn.2); (case h2 => omega); (case h3 => omega))); (case hd => rfl)) | apply v_seq | apply v_region | apply v_nil | apply v_skip | apply v_block | apply v_blk | (apply v_exit; (case hp => rfl)) | (apply v_take; (case hg => rfl)) | (apply v_pass; (case hg => rfl); (case hn => rfl); (case hd => rfl)) | (apply v_pure; (case hop => first | (apply p_move <;> rfl) | (apply p_eq <;> rfl) | (apply p_lt <;> rfl) | (apply p_gt <;> rfl) | (apply p_assign <;> rfl) | (apply p_pickT <;> rfl) | (apply p_pickF <;> rfl) | (apply p_lenSlice <;> rfl) | (apply p_add; (case hx => rfl); (case hy => rfl); (case h => omega)) | (apply p_sub; (case hx => rfl); (case hy => rfl); (case h => omega)) | (apply p_indexAddrS; (case hx => rfl); (case hi => rfl); (case h0 => omega); (case h => omega); (case hA => (apply_assumption; omega))) | (apply p_conv64; (case hx => rfl); (case h => omega)) | (apply p_mul; (case hx => rfl); (case hy => rfl); (case h => omega))); (case hd => rfl)) | (apply v_condF; (case hc => rfl)) | (apply v_cond; (case hc => rfl); all_goals (intro h; (try simp only [reduceCtorEq, dec_true, dec_false, decide_eq_true_eq, decide_eq_false_iff_not, Bool.not_eq_true', Bool.not_eq_false', Option.isNone_iff_eq_none, beq_true, beq_false, beq_iff_eq, beq_eq_false_iff_ne, ne_eq, decide_eq_decide, Bool.not_eq_true, Bool.not_eq_false, Decidable.not_not] at h); first | (exfalso; omega) | skip)) | (apply v_guardB; (case h1 => rfl); (case h2 => rfl); all_goals (intro h; (try simp only [reduceCtorEq, dec_true, dec_false, decide_eq_true_eq, decide_eq_false_iff_not, Bool.not_eq_true', Bool.not_eq_false', Option.isNone_iff_eq_none, beq_true, beq_false, beq_iff_eq, beq_eq_false_iff_ne, ne_eq, decide_eq_decide, Bool.not_eq_true, Bool.not_eq_false, Decidable.not_not] at h); (skip))) | (apply v_read; (case hop => (apply r_load1; rfl; exact Cell.frozen hel')); (case hd => rfl)))
      · refine v_ret [] (outsA3 rfl rfl rfl rfl) (by repeat (exact List.Sublist.refl _)) ?_
        exact ⟨getR_none (by rw [he, dvk_cons, if_pos (by omega)]; rfl) (by rw [hee, if_pos (by omega)]), rfl, rfl⟩
      · refine v_ret [] (outsA3 rfl rfl rfl rfl) (by repeat (exact List.Sublist.refl _)) ?_
        exact ⟨getR_some (r' := l.drop (at_ + k + 1)) (by rw [he, dvk_cons, if_neg (by omega), if_pos (by omega), dvs, Option.map_some, show cx % 128 = cx by omega, Int.mul_comm]) (by rw [List.length_drop]; omega), rfl, rfl⟩
      · refine v_ret [] (outsA3 rfl rfl rfl rfl) (by repeat (exact List.Sublist.refl _)) ?_
        exact ⟨getR_some (r' := l.drop (at_ + k + 1)) (by rw [he, dvk_cons, if_neg (by omega), if_pos (by omega), dvs, Option.map_some, show cx % 128 = cx by omega, Int.mul_comm]) (by rw [List.length_drop]; omega), rfl, rfl⟩
      · refine v_againI (k + 1, n + cx % 128 * 128 ^ k) rfl ⟨rfl, rfl, rfl, by simp only; omega, by simp only; omega, ⟨by simp only; omega, hb2⟩, hb3, ?_, ?_⟩ (by simp only; omega)
        · simp only
          rw [he, hst (by omega) (by omega) hcc.2, Nat.add_assoc]
        · simp only
          rw [hee, if_neg (by omega), if_neg (by omega), Nat.add_assoc]
    · try dsimp only
      repeat' (first | apply v_seq | apply v_region | apply v_nil | apply v_skip | apply v_block | (apply v_take; (case hg => rfl)) | (apply v_pass; (case hg => rfl); (case hn => rfl); (case hd => rfl)) | (apply v_pure; (case hop => first | (apply p_move <;> rfl) | (apply p_eq <;> rfl) | (apply p_lt <;> rfl) | (apply p_gt <;> rfl) | (apply p_assign <;> rfl) | (apply p_pickT <;> rfl) | (apply p_pickF <;> rfl) | (apply p_lenSlice <;> rfl) | (apply p_sub; (case hx => rfl); (case hy => rfl); (case h => omega)) | (apply p_indexAddrS; (case hx => rfl); (case hi => rfl); (case h0 => omega); (case h => omega); (case hA => (apply_assumption; omega))) | (apply p_mul; (case hx => rfl); (case hy => rfl); (case h => omega))); (case hd => rfl)) | (apply v_condF; (case hc => rfl)) | (apply v_cond; (case hc => rfl); all_goals (intro h; (try simp only [reduceCtorEq, dec_true, dec_false, decide_eq_true_eq, decide_eq_false_iff_not, Bool.not_eq_true', Bool.not_eq_false', Option.isNone_iff_eq_none, beq_true, beq_false, beq_iff_eq, beq_eq_false_iff_ne, ne_eq, decide_eq_decide, Bool.not_eq_true, Bool.not_eq_false, Decidable.not_not] at h); first | (exfalso; omega) | skip)) | (apply v_guardB; (case h1 => rfl); (case h2 => rfl); all_goals (intro h; (try simp only [reduceCtorEq, dec_true, dec_false, decide_eq_true_eq, decide_eq_false_iff_not, Bool.not_eq_true', Bool.not_eq_false', Option.isNone_iff_eq_none, beq_true, beq_false, beq_iff_eq, beq_eq_false_iff_ne, ne_eq, decide_eq_decide, Bool.not_eq_true, Bool.not_eq_false, Decidable.not_not] at h); (skip))) | (apply v_read; (case hop => (apply r_load1; rfl; exact Cell.frozen hel')); (case hd => rfl)))
      all_goals
        (refine v_ret [] (outsA3 rfl rfl rfl rfl) (by repeat (exact List.Sublist.refl _)) ?_
         exact ⟨getR_none (by rw [he, dvk_cons, if_pos (by omega)]; rfl) (by rw [hee, if_pos (by omega)]), rfl, rfl⟩)
  · have e0 : l.drop (at_ + k) = [] := List.drop_eq_nil_of_le (by omega)
    rw [e0, dvk_nil] at he
    rw [e0, dve_nil] at hee
    try dsimp only
    repeat' (first | apply v_seq | apply v_region | apply v_nil | (apply v_exit; (case hp => rfl)) | (apply v_pure; (case hop => first | (apply p_move <;> rfl) | (apply p_eq <;> rfl) | (apply p_lt <;> rfl) | (apply p_assign <;> rfl) | (apply p_lenSlice <;> rfl)); (case hd => rfl)) | (apply v_cond; (case hc => rfl); all_goals (intro h; (try simp only [reduceCtorEq, dec_true, dec_false, decide_eq_true_eq, decide_eq_false_iff_not, Bool.not_eq_true', Bool.not_eq_false', Option.isNone_iff_eq_none, beq_true, beq_false, beq_iff_eq, beq_eq_false_iff_ne, ne_eq, decide_eq_decide, Bool.not_eq_true, Bool.not_eq_false, Decidable.not_not] at h); first | (exfalso; omega) | skip)))
    refine v_ret [] (outsA3 rfl rfl rfl rfl) (by repeat (exact List.Sublist.refl _)) ?_
    exact ⟨getR_none he hee, rfl, rfl⟩
end Go.Proofs.YtnoiahlpmgbhfaaDoor
