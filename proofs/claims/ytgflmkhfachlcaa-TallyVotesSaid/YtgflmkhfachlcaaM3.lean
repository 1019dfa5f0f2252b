/-
  tally (layer 34): the reference.
-/
import Derived.Test.YtgflmkhfachlcaaM2
set_option linter.unusedSimpArgs false
set_option linter.unusedVariables false
namespace Go.Proofs.Ytgflmkhfachlcaa
open Go.Vx Go.ChangeShapes Go.WideShapes Go.ChangeAt Go.RowKit
def Vt.cells (x : Vt) : List Value := [.int .i64 x.r, .int .i64 x.n, .int .i64 x.index, .int .i64 x.node, .bool x.drop]
def VtR (x : Vt) (cs : List Value) : Prop := cs = x.cells ∧ (Lit.int .i64 x.index).wf = true
theorem vtOpen {G : GH} {v : Value} {l : List Vt} (h : Sl G 5 VtR v l) : ∃ A c, v = .slice A l.length c ∧ l.length ≤ c ∧ c ≤ maxLen ∧ (0 < l.length → A.isSome = true) ∧
    (∀ i (h : i < l.length), CellsG G ((adr A).add (i * 5)) l[i].cells) ∧ ∀ x ∈ l, (Lit.int .i64 x.index).wf = true := by
  obtain ⟨A, c, rfl, h1, h2, h3, h4⟩ := h.open
  refine ⟨A, c, rfl, h1, h2, h3, fun i hi => ?_, fun x hx => ?_⟩
  · obtain ⟨cs, _, ⟨rfl, h6⟩, h5⟩ := h4 i _ (List.getElem?_eq_getElem hi)
    exact h5
  · obtain ⟨i, hi, rfl⟩ := List.getElem_of_mem hx
    obtain ⟨cs, _, ⟨rfl, h6⟩, h5⟩ := h4 i _ (List.getElem?_eq_getElem hi)
    exact h6
theorem vtI {G : GH} {A : Option Addr} {l : List Vt} (hcp : ∀ i (h : i < l.length), CellsG G ((adr A).add (i * 5)) l[i].cells) (i : Nat) (h : i < l.length) : GH.cell? G (((adr A).add (i * 5)).add 2) = some (.int .i64 l[i].index) := (hcp i h).cell (j := 2) rfl
theorem vtN {G : GH} {A : Option Addr} {l : List Vt} (hcp : ∀ i (h : i < l.length), CellsG G ((adr A).add (i * 5)) l[i].cells) (i : Nat) (h : i < l.length) : GH.cell? G (((adr A).add (i * 5)).add 3) = some (.int .i64 l[i].node) := (hcp i h).cell (j := 3) rfl
theorem neBalE {σ : Env} {ty t' : TypeId} {x y : Operand} {a b a' b' : Int} (hx : Env.ev σ x = some (.agg [.int .i64 a, .int .i64 b].toArray)) (hy : Env.ev σ y = some (.agg [.int .i64 a', .int .i64 b'].toArray)) : PureOp Try.prog (.binOp .neq 26 x y t') ty σ (.bool (!dec (a = a' ∧ b = b'))) := by
  have := p_neStruct (P := Try.prog) (ty := ty) (t := 26) (t' := t') hx hy (feq_int (k := .i64) (a := a) (b := a') (bytes := 8) (zero := .int .i64 0) (sz := 1) rfl rfl rfl (feq_int (k := .i64) (a := b) (b := b') (bytes := 8) (zero := .int .i64 0) (sz := 1) rfl rfl rfl feq_nil))
  have e : (dec (a = a') && (dec (b = b') && true)) = dec (a = a' ∧ b = b') := by simp only [dec_eq]; simp
  rwa [e] at this
theorem hasV_take {got : List Vt} {i nd : Int} {k : Nat} (h : k < got.length) : hasV (got.take (k + 1)) i nd ↔ hasV (got.take k) i nd ∨ (got[k].index = i ∧ got[k].node = nd) := by
  unfold hasV
  rw [List.take_succ_eq_append_getElem h]
  simp only [List.mem_append, List.mem_singleton]
  constructor
  · rintro ⟨g, hg | rfl, h2⟩
    · exact .inl ⟨g, hg, h2⟩
    · exact .inr h2
  · rintro (⟨g, hg, h2⟩ | h2)
    · exact ⟨g, .inl hg, h2⟩
    · exact ⟨_, .inr rfl, h2⟩
theorem hasV_zero {got : List Vt} {i nd : Int} : ¬ hasV (got.take 0) i nd := by simp [hasV]
theorem counts_s {G : GH} {got : List Vt} {gv : Value} (r n low : Int) (v : Vt) (hs : Sl G 5 VtR gv got) : Con Try.prog 16 #[.agg #[.int .i64 r, .int .i64 n], gv, .int .i64 low, .agg v.cells.toArray] G [] (Just (.bool (decide (countsP r n got low v))) G) := by
  obtain ⟨A, c, rfl, hlc, hcm, hsome, hcp, -⟩ := vtOpen hs
  simp only [maxLen] at hcm
  apply Con.just
  obtain ⟨vr, vn, vi, vd, vb⟩ := v
  unfold Vt.cells countsP
  simp only
  (refine v_enter Try.func16 rfl Try.ntmps16 rfl ?_; intro B _)
  repeat' (first | apply v_seq | apply v_region | apply v_nil | apply v_skip | apply v_block | (apply v_take; (case hg => rfl)) | (apply v_pass; (case hg => rfl); (case hn => rfl); (case hd => rfl)) | (apply v_pure; (case hop => first | (apply p_move <;> rfl) | (apply p_lt <;> rfl) | (apply p_gt <;> rfl) | (apply p_le <;> rfl) | (apply p_assign <;> rfl) | (apply p_pickT <;> rfl) | (apply p_pickF <;> rfl) | (apply p_fieldAddrB <;> rfl) | fail); (case hd => rfl)) | (apply v_condT; (case hc => rfl)) | (apply v_cond; (case hc => rfl); all_goals (intro h; (try simp only [reduceCtorEq, dec_true, dec_false, decide_eq_true_eq, decide_eq_false_iff_not, Bool.not_eq_true', Bool.not_eq_false', Option.isNone_iff_eq_none, beq_true, beq_false, beq_iff_eq, beq_eq_false_iff_ne, ne_eq, decide_eq_decide, Bool.not_eq_true, Bool.not_eq_false, Decidable.not_not] at h); first | skip)) | (apply v_guardB; (case h1 => rfl); (case h2 => rfl); all_goals (intro h; (try simp only [reduceCtorEq, dec_true, dec_false, decide_eq_true_eq, decide_eq_false_iff_not, Bool.not_eq_true', Bool.not_eq_false', Option.isNone_iff_eq_none, beq_true, beq_false, beq_iff_eq, beq_eq_false_iff_ne, ne_eq, decide_eq_decide, Bool.not_eq_true, Bool.not_eq_false, Decidable.not_not] at h); first | skip)) | (apply v_box (zs := [.int .i64 r, .int .i64 n]); (case hx => rfl); (case hz => rfl); (case hd => rfl); intro b) | (apply v_box (zs := [.int .i64 vr, .int .i64 vn, .int .i64 vi, .int .i64 vd, .bool vb]); (case hx => rfl); (case hz => rfl); (case hd => rfl); intro b2) | (apply v_pure; (case hop => apply neBalE; (case hx => rfl); (case hy => rfl)); (case hd => rfl)) | (apply v_read; (case hop => (apply r_loadNo; (case hx => rfl); (case h => repeat (first | exact List.Mem.head _ | apply List.Mem.tail)); (case hd => rfl); (case hn => rfl))); (case hd => rfl)) | (apply v_read; (case hop => first | (apply r_load1; rfl; (apply Cell.own; (case h => (repeat (first | exact List.Mem.head _ | fail))); rfl)) | fail); (case hd => rfl)) | fail)
  all_goals try
    (refine v_ret [] (outsA1 rfl rfl) (by repeat (first | exact List.Sublist.refl _ | exact List.nil_sublist _ | fail)) ?_
     refine ⟨(congrArg Value.bool (decide_eq_false ?_)).symm, rfl⟩
     rintro ⟨h1, h2, h3, h4, h5, h6, h7⟩
     first | omega | fail)
  refine v_loop [9, 1, 7] (fun us G' μ' => G' = G ∧ ∃ k : Nat, k ≤ got.length ∧ us = [Value.int .i64 (k : Nat), .slice A got.length c, .pointer (some ⟨b2, 0, none⟩)] ∧ ¬ hasV (got.take k) vi vd ∧ μ' = [(b2, .cells [Value.int .i64 vr, .int .i64 vn, .int .i64 vi, .int .i64 vd, .bool vb].toArray 36 (0, 0)), (b, .cells [Value.int .i64 r, .int .i64 n].toArray 26 (0, 0))]) (fun us => got.length - (headI us).toNat) rfl ⟨rfl, 0, by omega, rfl, hasV_zero, rfl⟩ ?_
  rintro us G' _ ⟨rfl, k, hk, rfl, hno, rfl⟩
  have e1 : ((k : Nat) : Int).toNat = k := by omega
  repeat' (first | apply v_seq | apply v_region | apply v_nil | apply v_skip | apply v_block | (apply v_exit; (case hp => rfl)) | (apply v_pure; (case hop => first | (apply p_move <;> rfl) | (apply p_lt <;> rfl) | (apply p_assign <;> rfl) | (apply p_lenSlice <;> rfl) | fail); (case hd => rfl)) | (apply v_cond; (case hc => rfl); all_goals (intro h; (try simp only [reduceCtorEq, dec_true, dec_false, decide_eq_true_eq, decide_eq_false_iff_not, Bool.not_eq_true', Bool.not_eq_false', Option.isNone_iff_eq_none, beq_true, beq_false, beq_iff_eq, beq_eq_false_iff_ne, ne_eq, decide_eq_decide, Bool.not_eq_true, Bool.not_eq_false, Decidable.not_not] at h); first | skip)) | fail)
  · have hlt : k < got.length := by omega
    refine d_start _ (by kernel_rfl) (by kernel_rfl) (by kernel_rfl) (fun _ he => he) ?_
    all_goals (first | (apply d_take 0; (case hi => rfl); (case hop => first | (apply PureOp.read; apply p_move <;> rfl)); (case hf => kernel_rfl); (case hr => kernel_rfl); (case hd => rfl)) | fail)
    all_goals (first | (apply d_take 1; (case hi => rfl); (case hop => first | (apply PureOp.read; apply p_move <;> rfl)); (case hf => kernel_rfl); (case hr => kernel_rfl); (case hd => rfl)) | fail)
    all_goals (first | (apply d_take 2; (case hi => rfl); (case hop => first | (apply PureOp.read; apply p_indexAddrS; (case hx => rfl); (case hi => rfl); (case h0 => omega); (case h => omega); (case hA => first | (apply_assumption; omega)))); (case hf => kernel_rfl); (case hr => kernel_rfl); (case hd => rfl)) | fail)
    all_goals (first | (apply d_take 3; (case hi => rfl); (case hop => first | (apply PureOp.read; apply p_fieldAddr <;> rfl)); (case hf => kernel_rfl); (case hr => kernel_rfl); (case hd => rfl)) | fail)
    all_goals (first | (apply d_take 4; (case hi => rfl); (case hop => first | ((apply r_load1; rfl; exact Cell.frozen (vtI hcp _ (by omega)))) | fail); (case hf => kernel_rfl); (case hr => kernel_rfl); (case hd => rfl)) | fail)
    all_goals (first | (apply d_take 5; (case hi => rfl); (case hop => first | (apply PureOp.read; apply p_fieldAddrB <;> rfl) | fail); (case hf => kernel_rfl); (case hr => kernel_rfl); (case hd => rfl)) | fail)
    all_goals (first | (apply d_take 6; (case hi => rfl); (case hop => first | (apply r_load1; rfl; (apply Cell.own; (case h => (repeat (first | exact List.Mem.head _ | fail))); rfl)) | fail); (case hf => kernel_rfl); (case hr => kernel_rfl); (case hd => rfl)) | fail)
    all_goals (first | (apply d_take 7; (case hi => rfl); (case hop => first | (apply PureOp.read; apply p_eq <;> rfl) | fail); (case hf => kernel_rfl); (case hr => kernel_rfl); (case hd => rfl)) | fail)
    all_goals (first | (apply d_take 8; (case hi => rfl); (case hop => first | (apply PureOp.read; apply p_move <;> rfl)); (case hf => kernel_rfl); (case hr => kernel_rfl); (case hd => rfl)) | fail)
    all_goals (try (apply d_guardB 9; (case hi => rfl); (case hgd => rfl); (case h1 => rfl); (case h2 => first | rfl); all_goals (intro h; (try simp only [reduceCtorEq, dec_true, dec_false, decide_eq_true_eq, decide_eq_false_iff_not, Bool.not_eq_true', Bool.not_eq_false', Option.isNone_iff_eq_none, beq_true, beq_false, beq_iff_eq, beq_eq_false_iff_ne, ne_eq, decide_eq_decide, Bool.not_eq_true, Bool.not_eq_false, Decidable.not_not] at h); first | skip)))
    all_goals (first | (apply d_pass 9; (case hi => rfl); (case hg => rfl); (case hn => rfl); (case hf => kernel_rfl); (case hr => kernel_rfl); (case hd => rfl)) | (apply d_takeG 9; (case hi => rfl); (case hg => rfl); (case hop => first | (apply PureOp.read; apply p_move <;> rfl)); (case hf => kernel_rfl); (case hr => kernel_rfl); (case hd => rfl)) | fail)
    all_goals (try (apply d_guardB 10; (case hi => rfl); (case hgd => rfl); (case h1 => rfl); (case h2 => first | rfl); all_goals (intro h; (try simp only [reduceCtorEq, dec_true, dec_false, decide_eq_true_eq, decide_eq_false_iff_not, Bool.not_eq_true', Bool.not_eq_false', Option.isNone_iff_eq_none, beq_true, beq_false, beq_iff_eq, beq_eq_false_iff_ne, ne_eq, decide_eq_decide, Bool.not_eq_true, Bool.not_eq_false, Decidable.not_not] at h); first | done | skip)))
    all_goals (first | (apply d_pass 10; (case hi => rfl); (case hg => rfl); (case hn => rfl); (case hf => kernel_rfl); (case hr => kernel_rfl); (case hd => rfl)) | (apply d_takeG 10; (case hi => rfl); (case hg => rfl); (case hop => first | (apply PureOp.read; apply p_move <;> rfl)); (case hf => kernel_rfl); (case hr => kernel_rfl); (case hd => rfl)) | fail)
    all_goals (try (apply d_guardB 11; (case hi => rfl); (case hgd => rfl); (case h1 => rfl); (case h2 => first | rfl); all_goals (intro h; (try simp only [reduceCtorEq, dec_true, dec_false, decide_eq_true_eq, decide_eq_false_iff_not, Bool.not_eq_true', Bool.not_eq_false', Option.isNone_iff_eq_none, beq_true, beq_false, beq_iff_eq, beq_eq_false_iff_ne, ne_eq, decide_eq_decide, Bool.not_eq_true, Bool.not_eq_false, Decidable.not_not] at h); first | done | skip)))
    all_goals (first | (apply d_pass 11; (case hi => rfl); (case hg => rfl); (case hn => rfl); (case hf => kernel_rfl); (case hr => kernel_rfl); (case hd => rfl)) | (apply d_takeG 11; (case hi => rfl); (case hg => rfl); (case hop => first | (apply PureOp.read; apply p_indexAddrS; (case hx => rfl); (case hi => rfl); (case h0 => omega); (case h => omega); (case hA => first | (apply_assumption; omega)))); (case hf => kernel_rfl); (case hr => kernel_rfl); (case hd => rfl)) | fail)
    all_goals (try (apply d_guardB 12; (case hi => rfl); (case hgd => rfl); (case h1 => rfl); (case h2 => first | rfl); all_goals (intro h; (try simp only [reduceCtorEq, dec_true, dec_false, decide_eq_true_eq, decide_eq_false_iff_not, Bool.not_eq_true', Bool.not_eq_false', Option.isNone_iff_eq_none, beq_true, beq_false, beq_iff_eq, beq_eq_false_iff_ne, ne_eq, decide_eq_decide, Bool.not_eq_true, Bool.not_eq_false, Decidable.not_not] at h); first | done | skip)))
    all_goals (first | (apply d_pass 12; (case hi => rfl); (case hg => rfl); (case hn => rfl); (case hf => kernel_rfl); (case hr => kernel_rfl); (case hd => rfl)) | (apply d_takeG 12; (case hi => rfl); (case hg => rfl); (case hop => first | (apply PureOp.read; apply p_fieldAddr <;> rfl)); (case hf => kernel_rfl); (case hr => kernel_rfl); (case hd => rfl)) | fail)
    all_goals (try (apply d_guardB 13; (case hi => rfl); (case hgd => rfl); (case h1 => rfl); (case h2 => first | rfl); all_goals (intro h; (try simp only [reduceCtorEq, dec_true, dec_false, decide_eq_true_eq, decide_eq_false_iff_not, Bool.not_eq_true', Bool.not_eq_false', Option.isNone_iff_eq_none, beq_true, beq_false, beq_iff_eq, beq_eq_false_iff_ne, ne_eq, decide_eq_decide, Bool.not_eq_true, Bool.not_eq_false, Decidable.not_not] at h); first | done | skip)))
    all_goals (first | (apply d_pass 13; (case hi => rfl); (case hg => rfl); (case hn => rfl); (case hf => kernel_rfl); (case hr => kernel_rfl); (case hd => rfl)) | (apply d_takeG 13; (case hi => rfl); (case hg => rfl); (case hop => first | ((apply r_load1; rfl; exact Cell.frozen (vtN hcp _ (by omega)))) | fail); (case hf => kernel_rfl); (case hr => kernel_rfl); (case hd => rfl)) | fail)
    all_goals (try (apply d_guardB 14; (case hi => rfl); (case hgd => rfl); (case h1 => rfl); (case h2 => first | rfl); all_goals (intro h; (try simp only [reduceCtorEq, dec_true, dec_false, decide_eq_true_eq, decide_eq_false_iff_not, Bool.not_eq_true', Bool.not_eq_false', Option.isNone_iff_eq_none, beq_true, beq_false, beq_iff_eq, beq_eq_false_iff_ne, ne_eq, decide_eq_decide, Bool.not_eq_true, Bool.not_eq_false, Decidable.not_not] at h); first | done | skip)))
    all_goals (first | (apply d_pass 14; (case hi => rfl); (case hg => rfl); (case hn => rfl); (case hf => kernel_rfl); (case hr => kernel_rfl); (case hd => rfl)) | (apply d_takeG 14; (case hi => rfl); (case hg => rfl); (case hop => first | (apply PureOp.read; apply p_fieldAddrB <;> rfl) | fail); (case hf => kernel_rfl); (case hr => kernel_rfl); (case hd => rfl)) | fail)
    all_goals (try (apply d_guardB 15; (case hi => rfl); (case hgd => rfl); (case h1 => rfl); (case h2 => first | rfl); all_goals (intro h; (try simp only [reduceCtorEq, dec_true, dec_false, decide_eq_true_eq, decide_eq_false_iff_not, Bool.not_eq_true', Bool.not_eq_false', Option.isNone_iff_eq_none, beq_true, beq_false, beq_iff_eq, beq_eq_false_iff_ne, ne_eq, decide_eq_decide, Bool.not_eq_true, Bool.not_eq_false, Decidable.not_not] at h); first | done | skip)))
    all_goals (first | (apply d_pass 15; (case hi => rfl); (case hg => rfl); (case hn => rfl); (case hf => kernel_rfl); (case hr => kernel_rfl); (case hd => rfl)) | (apply d_takeG 15; (case hi => rfl); (case hg => rfl); (case hop => first | (apply r_load1; rfl; (apply Cell.own; (case h => (repeat (first | exact List.Mem.head _ | fail))); rfl)) | fail); (case hf => kernel_rfl); (case hr => kernel_rfl); (case hd => rfl)) | fail)
    all_goals (try (apply d_guardB 16; (case hi => rfl); (case hgd => rfl); (case h1 => rfl); (case h2 => first | rfl); all_goals (intro h; (try simp only [reduceCtorEq, dec_true, dec_false, decide_eq_true_eq, decide_eq_false_iff_not, Bool.not_eq_true', Bool.not_eq_false', Option.isNone_iff_eq_none, beq_true, beq_false, beq_iff_eq, beq_eq_false_iff_ne, ne_eq, decide_eq_decide, Bool.not_eq_true, Bool.not_eq_false, Decidable.not_not] at h); first | done | skip)))
    all_goals (first | (apply d_pass 16; (case hi => rfl); (case hg => rfl); (case hn => rfl); (case hf => kernel_rfl); (case hr => kernel_rfl); (case hd => rfl)) | (apply d_takeG 16; (case hi => rfl); (case hg => rfl); (case hop => first | (apply PureOp.read; apply p_eq <;> rfl) | fail); (case hf => kernel_rfl); (case hr => kernel_rfl); (case hd => rfl)) | fail)
    all_goals (first | (apply d_take 17; (case hi => rfl); (case hop => first | (apply PureOp.read; apply p_pickT <;> rfl) | (apply PureOp.read; apply p_pickF <;> rfl) | fail); (case hf => kernel_rfl); (case hr => kernel_rfl); (case hd => rfl)) | fail)
    all_goals (apply d_done; (case hr => kernel_rfl))
    repeat' (first | apply v_seq | apply v_region | apply v_nil | apply v_skip | apply v_blk | (apply v_pure; (case hop => first | (apply p_move <;> rfl) | (apply p_assign <;> rfl) | (apply p_add; (case hx => rfl); (case hy => rfl); (case h => omega)) | fail); (case hd => rfl)) | (apply v_condF; (case hc => rfl)) | (apply v_cond; (case hc => rfl); all_goals (intro h; (try simp only [reduceCtorEq, dec_true, dec_false, decide_eq_true_eq, decide_eq_false_iff_not, Bool.not_eq_true', Bool.not_eq_false', Option.isNone_iff_eq_none, beq_true, beq_false, beq_iff_eq, beq_eq_false_iff_ne, ne_eq, decide_eq_decide, Bool.not_eq_true, Bool.not_eq_false, Decidable.not_not] at h); first | skip)) | fail)
    · refine v_ret [] (outsA1 rfl rfl) (by repeat (first | exact List.nil_sublist _ | fail)) ?_
      refine ⟨(congrArg Value.bool (decide_eq_false ?_)).symm, rfl⟩
      rintro ⟨-, -, -, -, -, -, h7⟩
      exact h7 ⟨got[k], List.getElem_mem hlt, by assumption, by assumption⟩
    all_goals
      (refine v_again rfl ⟨rfl, k + 1, by omega, rfl, ?_, rfl⟩ (by simp [headI]; omega)
       rw [hasV_take hlt]
       rintro (h7 | ⟨h7, h8⟩)
       · exact hno h7
       · first | exact absurd h7 (by assumption) | exact absurd h8 (by assumption))
  · refine v_ret [] (outsA1 rfl rfl) (by repeat (first | exact List.nil_sublist _ | fail)) ?_
    refine ⟨(congrArg Value.bool (decide_eq_true ?_)).symm, rfl⟩
    have : k = got.length := by omega
    rw [this, List.take_length] at hno
    exact ⟨by assumption, by omega, by omega, by omega, by omega, by omega, hno⟩
def nodesU (got : List Vt) (low i : Int) (n : Nat) : List Int := ((List.range n).filter fun (n : Nat) => decide (1 ≤ n ∧ low < i ∧ hasV got i (n : Int))).map fun (n : Nat) => (n : Int)
def outR (got : List Vt) (low i : Int) (n k : Nat) : List Int := nodesU got low i n ++ (if low < i ∧ hasV (got.take k) i n then [(n : Int)] else [])
theorem outR_zero {got : List Vt} {low i : Int} {n : Nat} : outR got low i n 0 = nodesU got low i n := by
  unfold outR
  rw [if_neg fun h => hasV_zero h.2, List.append_nil]
theorem outR_full {got : List Vt} {low i : Int} {n : Nat} (hn : 1 ≤ n) : outR got low i n got.length = nodesU got low i (n + 1) := by
  unfold outR nodesU
  rw [List.take_length, List.range_succ, List.filter_append, List.map_append]
  congr 1
  by_cases h : low < i ∧ hasV got i n
  · rw [if_pos h, List.filter_cons_of_pos (by simpa using ⟨hn, h⟩)]
    rfl
  · rw [if_neg h, List.filter_cons_of_neg (by simpa using fun _ a b => h ⟨a, b⟩)]
    rfl
theorem mem_outR {got : List Vt} {low i : Int} {n k : Nat} : inB (outR got low i n k) n = true ↔ low < i ∧ hasV (got.take k) i n := by
  unfold outR nodesU inB
  rw [decide_eq_true_iff, List.mem_append, List.mem_map]
  constructor
  · rintro (⟨m, hm, e⟩ | h)
    · simp only [List.mem_filter, List.mem_range] at hm
      omega
    · split at h
      · assumption
      · cases h
  · intro h
    rw [if_pos h]
    exact .inr (List.mem_singleton.2 rfl)
theorem outR_yes {got : List Vt} {low i : Int} {n k : Nat} (hk : k < got.length) (h1 : got[k].index = i) (h2 : low < i) (h3 : got[k].node = n) (h4 : inB (outR got low i n k) n = false) : outR got low i n (k + 1) = outR got low i n k ++ [(n : Int)] := by
  have h5 : ¬ (low < i ∧ hasV (got.take k) i n) := fun h => by
    rw [mem_outR.2 h] at h4
    cases h4
  unfold outR
  rw [if_neg h5, if_pos ⟨h2, (hasV_take hk).2 (.inr ⟨h1, h3⟩)⟩, List.append_nil]
theorem outR_no {got : List Vt} {low i : Int} {n k : Nat} (hk : k < got.length) (h : got[k].index = i → low < i → got[k].node = n → inB (outR got low i n k) n = true) : outR got low i n (k + 1) = outR got low i n k := by
  unfold outR
  congr 1
  by_cases h5 : low < i ∧ hasV (got.take k) i n
  · rw [if_pos h5, if_pos ⟨h5.1, (hasV_take hk).2 (.inl h5.2)⟩]
  · rw [if_neg h5, if_neg]
    rintro ⟨h6, h7⟩
    rcases (hasV_take hk).1 h7 with h7 | ⟨h7, h8⟩
    · exact h5 ⟨h6, h7⟩
    · exact h5 (mem_outR.1 (h h7 h6 h8))
theorem outR_len {got : List Vt} {low i : Int} {n k : Nat} : (outR got low i n k).length ≤ n + 1 := by
  unfold outR nodesU
  rw [List.length_append, List.length_map]
  have := List.length_filter_le (fun (n : Nat) => decide (1 ≤ n ∧ low < i ∧ hasV got i (n : Int))) (List.range n)
  rw [List.length_range] at this
  split <;> simp only [List.length_cons, List.length_nil] <;> omega
theorem outR_wf {got : List Vt} {low i : Int} {n k : Nat} (hn : n ≤ 9) : ∀ y ∈ outR got low i n k, (Lit.int .i64 y).wf = true := by
  intro y hy
  have : 0 ≤ y ∧ y ≤ 9 := by
    unfold outR nodesU at hy
    rw [List.mem_append, List.mem_map] at hy
    rcases hy with ⟨m, hm, rfl⟩ | hy
    · simp only [List.mem_filter, List.mem_range] at hm
      omega
    · split at hy
      · rw [List.mem_singleton] at hy
        omega
      · cases hy
  simp [Lit.wf, IntKind.min, IntKind.max, IntKind.bits, IntKind.signed]
  omega
theorem refNodes_s {G : GH} {got : List Vt} {gv : Value} (low i : Int) (hs : Sl G 5 VtR gv got) : Con Try.prog 17 #[gv, .int .i64 low, .int .i64 i] G [] (fun v G' μ' => G' = G ∧ Grow 3 1 v (nodesR got low i).length ((nodesR got low i).map (Value.int .i64 ·)) μ') := by
  obtain ⟨A, c, rfl, hlc, hcm, hsome, hcp, -⟩ := vtOpen hs
  simp only [maxLen] at hcm
  (refine v_enter Try.func17 rfl Try.ntmps17 rfl ?_; intro B _)
  repeat' (first | apply v_seq | apply v_region | apply v_nil | apply v_block | (apply v_pure; (case hop => first | (apply p_assign <;> rfl) | fail); (case hd => rfl)) | fail)
  refine v_loop [8, 7, 0, 1, 2] (fun us G' μ' => G' = G ∧ ∃ (n : Nat) (out : Value), 1 ≤ n ∧ n ≤ 10 ∧ us = [Value.int .i64 (n : Nat), out, .slice A got.length c, .int .i64 low, .int .i64 i] ∧ Grow 3 1 out (nodesU got low i n).length ((nodesU got low i n).map (Value.int .i64 ·)) μ') (fun us => 10 - (headI us).toNat) rfl ⟨rfl, 1, _, by omega, by omega, rfl, Grow.nil _ _⟩ ?_
  rintro us G' μ' ⟨rfl, n, out, hn1, hn, rfl, hg⟩
  have e1 : ((n : Nat) : Int).toNat = n := by omega
  repeat' (first | apply v_seq | apply v_region | apply v_nil | apply v_skip | apply v_block | (apply v_exit; (case hp => rfl)) | (apply v_pure; (case hop => first | (apply p_move <;> rfl) | (apply p_le <;> rfl) | (apply p_assign <;> rfl) | fail); (case hd => rfl)) | (apply v_cond; (case hc => rfl); all_goals (intro h; (try simp only [reduceCtorEq, dec_true, dec_false, decide_eq_true_eq, decide_eq_false_iff_not, Bool.not_eq_true', Bool.not_eq_false', Option.isNone_iff_eq_none, beq_true, beq_false, beq_iff_eq, beq_eq_false_iff_ne, ne_eq, decide_eq_decide, Bool.not_eq_true, Bool.not_eq_false, Decidable.not_not] at h); first | skip)) | fail)
  · refine v_loop [9, 7, 8, 0, 1, 2] (fun us G2 μ' => G2 = G' ∧ ∃ (k : Nat) (out : Value), k ≤ got.length ∧ us = [Value.int .i64 (k : Nat), out, .int .i64 (n : Nat), .slice A got.length c, .int .i64 low, .int .i64 i] ∧ Grow 3 1 out (outR got low i n k).length ((outR got low i n k).map (Value.int .i64 ·)) μ') (fun us => got.length - (headI us).toNat) rfl ⟨rfl, 0, _, by omega, rfl, by rw [outR_zero]; exact hg⟩ ?_
    rintro us G' μ2 ⟨rfl, k, out2, hk, rfl, hg2⟩
    have hle := outR_len (got := got) (low := low) (i := i) (n := n) (k := k)
    have ek : ((k : Nat) : Int).toNat = k := by omega
    have q := Con.lendJ (P := Try.prog) (f := 14) (args := #[out2, .int .i64 (n : Nat)]) (G := G') (ν := μ2) (v := .bool (inB (outR got low i n k) n)) fun G2 h1 h2 => in_s _ (hg2.ints h2 (outR_wf (by omega)))
    cases hib : inB (outR got low i n k) n <;> rw [hib] at q
    all_goals
      (repeat' (first | apply v_seq | apply v_region | apply v_nil | apply v_skip | apply v_block | apply v_blk | (apply v_exit; (case hp => rfl)) | (apply v_take; (case hg => rfl)) | (apply v_pass; (case hg => rfl); (case hn => rfl); (case hd => rfl)) | (apply v_pure; (case hop => first | (apply p_move <;> rfl) | (apply p_eq <;> rfl) | (apply p_lt <;> rfl) | (apply p_gt <;> rfl) | (apply p_assign <;> rfl) | (apply p_pickT <;> rfl) | (apply p_pickF <;> rfl) | (apply p_not <;> rfl) | (apply p_lenSlice <;> rfl) | (apply p_fieldAddr <;> rfl) | (apply p_add; (case hx => rfl); (case hy => rfl); (case h => omega)) | (apply p_indexAddrS; (case hx => rfl); (case hi => rfl); (case h0 => omega); (case h => omega); (case hA => first | (apply_assumption; omega))) | fail); (case hd => rfl)) | (apply v_condT; (case hc => rfl)) | (apply v_condF; (case hc => rfl)) | (apply v_cond; (case hc => rfl); all_goals (intro h; (try simp only [reduceCtorEq, dec_true, dec_false, decide_eq_true_eq, decide_eq_false_iff_not, Bool.not_eq_true', Bool.not_eq_false', Option.isNone_iff_eq_none, beq_true, beq_false, beq_iff_eq, beq_eq_false_iff_ne, ne_eq, decide_eq_decide, Bool.not_eq_true, Bool.not_eq_false, Decidable.not_not] at h); first | skip)) | (apply v_guardB; (case h1 => rfl); (case h2 => rfl); all_goals (intro h; (try simp only [reduceCtorEq, dec_true, dec_false, decide_eq_true_eq, decide_eq_false_iff_not, Bool.not_eq_true', Bool.not_eq_false', Option.isNone_iff_eq_none, beq_true, beq_false, beq_iff_eq, beq_eq_false_iff_ne, ne_eq, decide_eq_decide, Bool.not_eq_true, Bool.not_eq_false, Decidable.not_not] at h); first | skip)) | (apply v_read; (case hop => first | (apply r_load1; rfl; exact Cell.frozen (vtI hcp _ (by omega))) | (apply r_load1; rfl; exact Cell.frozen (vtN hcp _ (by omega)))); (case hd => rfl)) | (apply v_callK (hs := q); (case ha => rfl); (case hp => exact List.Perm.of_eq (List.append_nil _).symm); (case hd => rfl)) | (apply v_append (hg := hg2) (m' := 1) (us := [Value.int .i64 (n : Nat)]) (hp := PickA.perm (by repeat (first | exact PickA.last | apply PickA.cons | fail))) (hsrc := Src.own (e := 3) (by repeat (first | exact List.Mem.head _ | fail)) rfl); (case hzs => rfl); (case hsz => omega); (case hs => rfl); (case hx => rfl); (case hb => omega); (case hb' => simp only [maxLen]; omega); (case hd => rfl); (case h1 => rfl); intro v3 n3 hg3) | (apply v_buildSlice; (case hz => rfl); (case hi => rfl); (case hv => (simp only [List.map_cons, List.map_nil]; repeat (first | with_reducible exact evs_nil | (apply evs_cons; (case h1 => rfl))))); (case hp => (first | (apply pk_cons; (case hc => rfl); (case hs => rfl); (case h => (first | with_reducible exact pk_nil | fail)); (case he => (first | ((repeat (first | with_reducible exact ap_nil | apply ap_cons)); done) | fail))) | fail)); (case hb => rfl); (case hd => rfl); intro b) | fail))
    all_goals first
      | (have hlt : k < got.length := by omega
         refine v_again rfl ⟨rfl, k + 1, out2, by omega, rfl, ?_⟩ (by simp [headI]; omega)
         rw [outR_no hlt (fun h1 h2 h3 => by first | exact hib | exact absurd h1 (by assumption) | exact absurd h2 (by assumption) | exact absurd h3 (by assumption))]
         exact hg2)
      | (have hlt : k < got.length := by omega
         refine v_drop (ν := n3) (by simp) ?_
         refine v_again rfl ⟨rfl, k + 1, v3, by omega, rfl, ?_⟩ (by simp [headI]; omega)
         rw [outR_yes hlt (by assumption) (by assumption) (by assumption) hib]
         simpa using hg3)
      | (obtain rfl : k = got.length := by omega
         rw [outR_full hn1] at hg2
         refine v_again rfl ⟨rfl, n + 1, out2, by omega, by omega, rfl, hg2⟩ (by simp [headI]; omega))
  · obtain rfl : n = 10 := by omega
    refine v_ret μ' (outsA1 rfl rfl) (List.Sublist.refl _) ⟨rfl, ?_⟩
    exact hg
def openS (got : List Vt) (low : Int) (L : List Int) : Prop := L.Pairwise (· < ·) ∧ ∀ x, x ∈ L ↔ low < x ∧ ∃ g ∈ got, g.index = x
theorem openS_zero {got : List Vt} {low : Int} : openS (got.take 0) low [] := ⟨List.Pairwise.nil, by simp⟩
theorem openS_same {got : List Vt} {low : Int} {L : List Int} {k : Nat} (hk : k < got.length) (h : openS (got.take k) low L) (hn : got[k].index ≤ low ∨ got[k].index ∈ L) : openS (got.take (k + 1)) low L := by
  refine ⟨h.1, fun x => ?_⟩
  rw [h.2, List.take_succ_eq_append_getElem hk]
  simp only [List.mem_append, List.mem_singleton]
  constructor
  · rintro ⟨h1, g, hg, h2⟩
    exact ⟨h1, g, .inl hg, h2⟩
  · rintro ⟨h1, g, hg | rfl, h2⟩
    · exact ⟨h1, g, hg, h2⟩
    · rcases hn with hn | hn
      · omega
      · subst h2
        exact (h.2 _).1 hn
theorem openS_put {got : List Vt} {low : Int} {L : List Int} {k a : Nat} (hk : k < got.length) (h : openS (got.take k) low L) (h1 : low < got[k].index) (h2 : ¬ got[k].index ∈ L) (ha : a ≤ L.length) (hlo : ∀ j (hj : j < a), L[j]'(by omega) < got[k].index) (hhi : ∀ (hj : a < L.length), ¬ L[a] < got[k].index) :
    openS (got.take (k + 1)) low (L.take a ++ (got[k].index :: L.drop a)) := by
  obtain ⟨hp, hm⟩ := h
  have hT : ∀ x ∈ L.take a, x < got[k].index := fun x hx => by
    obtain ⟨j, hj, rfl⟩ := List.getElem_of_mem hx
    rw [List.length_take] at hj
    rw [List.getElem_take]
    exact hlo j (by omega)
  have hD : ∀ x ∈ L.drop a, got[k].index < x := fun x hx => by
    have hne : x ≠ got[k].index := fun e => h2 (e ▸ List.mem_of_mem_drop hx)
    obtain ⟨j, hj, rfl⟩ := List.getElem_of_mem hx
    rw [List.length_drop] at hj
    rw [List.getElem_drop] at hne ⊢
    have := hhi (by omega)
    by_cases h0 : j = 0
    · subst h0
      simp only [Nat.add_zero] at hne ⊢
      omega
    · have := List.pairwise_iff_getElem.1 hp a (a + j) (by omega) (by omega) (by omega)
      omega
  refine ⟨?_, fun x => ?_⟩
  · rw [List.pairwise_append, List.pairwise_cons]
    refine ⟨hp.sublist (List.take_sublist _ _), ⟨hD, hp.sublist (List.drop_sublist _ _)⟩, fun x hx y hy => ?_⟩
    have := hT x hx
    rcases List.mem_cons.1 hy with rfl | hy
    · exact this
    · have := hD y hy
      omega
  · have e : x ∈ L.take a ++ (got[k].index :: L.drop a) ↔ x = got[k].index ∨ x ∈ L := by
      rw [List.mem_append, List.mem_cons]
      conv => rhs; rw [← List.take_append_drop a L, List.mem_append]
      constructor
      · rintro (h | h | h)
        · exact .inr (.inl h)
        · exact .inl h
        · exact .inr (.inr h)
      · rintro (h | h | h)
        · exact .inr (.inl h)
        · exact .inl h
        · exact .inr (.inr h)
    rw [e, hm, List.take_succ_eq_append_getElem hk]
    simp only [List.mem_append, List.mem_singleton]
    constructor
    · rintro (rfl | ⟨h3, g, hg, h4⟩)
      · exact ⟨h1, _, .inr rfl, rfl⟩
      · exact ⟨h3, g, .inl hg, h4⟩
    · rintro ⟨h3, g, hg | rfl, h4⟩
      · exact .inr ⟨h3, g, hg, h4⟩
      · exact .inl h4.symm
theorem refOpen_s {G : GH} {got : List Vt} {gv : Value} (low : Int) (hs : Sl G 5 VtR gv got) (hb : got.length ≤ 1000000) : Con Try.prog 20 #[gv, .int .i64 low] G [] (fun v G' μ' => GH.le G G' ∧ μ' = [] ∧ ∃ L, openS got low L ∧ Sl G' 1 (IntR .i64) v L) := by
  obtain ⟨A, c, rfl, hlc, hcm, hsome, hcp, hwf⟩ := vtOpen hs
  simp only [maxLen] at hcm
  (refine v_enter Try.func20 rfl Try.ntmps20 rfl ?_; intro B _)
  repeat' (first | apply v_seq | apply v_region | apply v_nil | apply v_block | (apply v_pure; (case hop => first | (apply p_assign <;> rfl) | fail); (case hd => rfl)) | fail)
  refine v_loop [6, 5, 0, 1] (fun us G2 μ2 => GH.le G G2 ∧ μ2 = [] ∧ ∃ (k : Nat) (out : Value) (L : List Int), k ≤ got.length ∧ L.length ≤ k ∧ us = [Value.int .i64 (k : Nat), out, .slice A got.length c, .int .i64 low] ∧ openS (got.take k) low L ∧ Sl G2 1 (IntR .i64) out L) (fun us => got.length - (headI us).toNat) rfl ⟨GH.le_refl _, rfl, 0, _, [], by omega, by simp, rfl, openS_zero, Sl.nil⟩ ?_
  rintro us G2 _ ⟨hle, rfl, k, out, L, hk, hLk, rfl, hS, hout⟩
  have e1 : ((k : Nat) : Int).toNat = k := by omega
  have hcp2 := fun i h => (hcp i h).le hle
  have q := fun x => in_s x hout
  repeat' (first | apply v_seq | apply v_region | apply v_nil | apply v_skip | apply v_block | (apply v_exit; (case hp => rfl)) | (apply v_take; (case hg => rfl)) | (apply v_pass; (case hg => rfl); (case hn => rfl); (case hd => rfl)) | (apply v_pure; (case hop => first | (apply p_move <;> rfl) | (apply p_lt <;> rfl) | (apply p_le <;> rfl) | (apply p_assign <;> rfl) | (apply p_pickT <;> rfl) | (apply p_pickF <;> rfl) | (apply p_lenSlice <;> rfl) | (apply p_fieldAddr <;> rfl) | (apply p_add; (case hx => rfl); (case hy => rfl); (case h => omega)) | (apply p_indexAddrS; (case hx => rfl); (case hi => rfl); (case h0 => omega); (case h => omega); (case hA => first | (apply_assumption; omega))) | fail); (case hd => rfl)) | (apply v_condT; (case hc => rfl)) | (apply v_cond; (case hc => rfl); all_goals (intro h; (try simp only [reduceCtorEq, dec_true, dec_false, decide_eq_true_eq, decide_eq_false_iff_not, Bool.not_eq_true', Bool.not_eq_false', Option.isNone_iff_eq_none, beq_true, beq_false, beq_iff_eq, beq_eq_false_iff_ne, ne_eq, decide_eq_decide, Bool.not_eq_true, Bool.not_eq_false, Decidable.not_not] at h); first | skip)) | (apply v_guardB; (case h1 => rfl); (case h2 => rfl); all_goals (intro h; (try simp only [reduceCtorEq, dec_true, dec_false, decide_eq_true_eq, decide_eq_false_iff_not, Bool.not_eq_true', Bool.not_eq_false', Option.isNone_iff_eq_none, beq_true, beq_false, beq_iff_eq, beq_eq_false_iff_ne, ne_eq, decide_eq_decide, Bool.not_eq_true, Bool.not_eq_false, Decidable.not_not] at h); first | skip)) | (apply v_read; (case hop => (apply r_load1; rfl; exact Cell.frozen (vtI hcp2 _ (by omega)))); (case hd => rfl)) | (apply v_callJ (hs := q _); (case ha => rfl); (case hd => rfl)) | fail)
  · have hlt : k < got.length := by omega
    refine v_again rfl ⟨hle, rfl, k + 1, out, L, by omega, by omega, rfl, openS_same hlt hS (.inl (by assumption)), hout⟩ (by simp [headI]; omega)
  · have hlt : k < got.length := by omega
    have hin : inB L got[k].index = true := by assumption
    refine v_again rfl ⟨hle, rfl, k + 1, out, L, by omega, by omega, rfl, openS_same hlt hS (.inr (of_decide_eq_true hin)), hout⟩ (by simp [headI]; omega)
  rotate_left
  · obtain rfl : k = got.length := by omega
    rw [List.take_length] at hS
    refine v_ret [] (outsA1 rfl rfl) (List.Sublist.refl _) ⟨hle, rfl, L, hS, hout⟩
  have hlt : k < got.length := by omega
  have hin : inB L got[k].index = false := by assumption
  have hlow : ¬ got[k].index ≤ low := by assumption
  have hnin : ¬ got[k].index ∈ L := of_decide_eq_false hin
  have hwk := hwf _ (List.getElem_mem hlt)
  obtain ⟨A2, c2, rfl, hlc2, hcm2, hsome2, hel2, hwf2⟩ := id hout.openInt
  have hcm3 := hcm2
  simp only [maxLen] at hcm3
  refine v_loop [8, 5, 7, 6, 0, 1] (fun us G3 μ3 => G3 = G2 ∧ μ3 = [] ∧ ∃ a : Nat, ∃ ha : a ≤ L.length, us = [Value.int .i64 (a : Nat), .slice A2 L.length c2, .int .i64 got[k].index, .int .i64 (k : Nat), .slice A got.length c, .int .i64 low] ∧ ∀ j (hj : j < a), L[j]'(by omega) < got[k].index) (fun us => L.length - (headI us).toNat) rfl ⟨rfl, rfl, 0, by omega, rfl, fun j hj => absurd hj (by omega)⟩ ?_
  rintro us G3 _ ⟨rfl, rfl, a, ha, rfl, hlo⟩
  have ea : ((a : Nat) : Int).toNat = a := by omega
  generalize hge : got[k].index = nn at *
  repeat' (first | apply v_seq | apply v_region | apply v_nil | apply v_skip | apply v_block | apply v_blk | (apply v_exit; (case hp => rfl)) | (apply v_take; (case hg => rfl)) | (apply v_pass; (case hg => rfl); (case hn => rfl); (case hd => rfl)) | (apply v_pure; (case hop => first | (apply p_move <;> rfl) | (apply p_lt <;> rfl) | (apply p_assign <;> rfl) | (apply p_pickT <;> rfl) | (apply p_pickF <;> rfl) | (apply p_lenSlice <;> rfl) | (apply p_add; (case hx => rfl); (case hy => rfl); (case h => omega)) | (apply p_indexAddrS; (case hx => rfl); (case hi => rfl); (case h0 => omega); (case h => omega); (case hA => first | (apply_assumption; omega))) | fail); (case hd => rfl)) | (apply v_condF; (case hc => rfl)) | (apply v_cond; (case hc => rfl); all_goals (intro h; (try simp only [reduceCtorEq, dec_true, dec_false, decide_eq_true_eq, decide_eq_false_iff_not, Bool.not_eq_true', Bool.not_eq_false', Option.isNone_iff_eq_none, beq_true, beq_false, beq_iff_eq, beq_eq_false_iff_ne, ne_eq, decide_eq_decide, Bool.not_eq_true, Bool.not_eq_false, Decidable.not_not] at h); first | skip)) | (apply v_guardB; (case h1 => rfl); (case h2 => rfl); all_goals (intro h; (try simp only [reduceCtorEq, dec_true, dec_false, decide_eq_true_eq, decide_eq_false_iff_not, Bool.not_eq_true', Bool.not_eq_false', Option.isNone_iff_eq_none, beq_true, beq_false, beq_iff_eq, beq_eq_false_iff_ne, ne_eq, decide_eq_decide, Bool.not_eq_true, Bool.not_eq_false, Decidable.not_not] at h); first | skip)) | (apply v_read; (case hop => (apply r_load1; rfl; exact Cell.frozen (hel2 _ (by omega)))); (case hd => rfl)) | fail)
  · have hal : a < L.length := by omega
    refine v_again rfl ⟨rfl, rfl, a + 1, by omega, rfl, fun j hj => ?_⟩ (by simp [headI]; omega)
    by_cases hj2 : j < a
    · exact hlo j hj2
    · obtain rfl : j = a := by omega
      assumption
  all_goals
    (have hhi : ∀ (hj : a < L.length), ¬ L[a] < nn := fun hj => by first | assumption | omega
     have hs9 := fun μ => Sl.srcInt (μ := μ) (hout.drop ha)
     rw [List.length_drop] at hs9
     have htl : (L.take a).length = a := by rw [List.length_take]; omega
     have hs10 : ∀ μ, Src G3 μ (.slice A2 a a) a 1 ((L.take a).map (Value.int .i64 ·)) := fun μ => by
       have h10 := Sl.srcInt (μ := μ) (hout.take ha)
       rw [htl] at h10
       exact Src.cap h10
     have h1a := allOne_ints (k := .i64) (L.drop a)
     refine d_start [] (by kernel_rfl) (by kernel_rfl) (by kernel_rfl) (by intro e he; first | exact he | fail) ?_
     all_goals (first | (apply d_take 0; (case hi => rfl); (case hop => first | (apply PureOp.read; apply p_move <;> rfl)); (case hf => kernel_rfl); (case hr => kernel_rfl); (case hd => rfl)) | fail)
     all_goals (first | (apply d_take 1; (case hi => rfl); (case hop => first | (apply PureOp.read; apply p_move <;> rfl)); (case hf => kernel_rfl); (case hr => kernel_rfl); (case hd => rfl)) | fail)
     all_goals (first | (apply d_take 2; (case hi => rfl); (case hop => first | (apply PureOp.read; apply p_move <;> rfl)); (case hf => kernel_rfl); (case hr => kernel_rfl); (case hd => rfl)) | fail)
     all_goals (first | (apply d_take 3; (case hi => rfl); (case hop => first | ((apply PureOp.read; apply p_cap3; (case hx => rfl); (case hh => rfl); (case hq => rfl); omega)) | fail); (case hf => kernel_rfl); (case hr => kernel_rfl); (case hd => rfl)) | fail)
     all_goals (first | (apply d_take 4; (case hi => rfl); (case hop => first | (apply PureOp.read; apply p_move <;> rfl)); (case hf => kernel_rfl); (case hr => kernel_rfl); (case hd => rfl)) | fail)
     all_goals (first | (apply d_take 6; (case hi => rfl); (case hop => first | (apply PureOp.read; apply p_move <;> rfl)); (case hf => kernel_rfl); (case hr => kernel_rfl); (case hd => rfl)) | fail)
     all_goals (first | (apply d_take 7; (case hi => rfl); (case hop => first | (apply PureOp.read; apply p_move <;> rfl)); (case hf => kernel_rfl); (case hr => kernel_rfl); (case hd => rfl)) | fail)
     all_goals (first | (apply d_take 8; (case hi => rfl); (case hop => first | ((apply PureOp.read; apply p_fromN; (case hx => rfl); (case hl => rfl); all_goals omega)) | fail); (case hf => kernel_rfl); (case hr => kernel_rfl); (case hd => rfl)) | fail)
     all_goals (first | (apply d_buildSlice 5; (case hi => rfl); (case hr => kernel_rfl); (case hT => infer_instance); (case hL => infer_instance); (case hz => rfl); (case hl => rfl); (case hv => (simp only [List.map_cons, List.map_nil]; repeat (first | with_reducible exact evs_nil | (apply evs_cons; (case h1 => rfl))))); (case hp => (first | (apply pk_cons; (case hc => rfl); (case hs => rfl); (case h => (first | with_reducible exact pk_nil | fail)); (case he => (first | ((repeat (first | with_reducible exact ap_nil | apply ap_cons)); done) | fail))) | fail)); (case hb => rfl); (case hd => rfl); (case hν => intro e he; first | exact he | fail); intro sb) | fail)
     all_goals (first | (apply d_append 9 (hg := Grow.lit (e := 3) (sz := 1) (b := sb) (m := 1) (xs := [Value.int .i64 nn]) rfl (by simp only [maxLen]; omega)) (q' := L.length - a) (us := (L.drop a).map (Value.int .i64 ·)) (hp := PickA.perm (by repeat (first | exact PickA.last | fail))) (hsrc := hs9 _); (case hi => rfl); (case hr => kernel_rfl); (case hT => infer_instance); (case hL => infer_instance); (case hzs => rfl); (case hsz => omega); (case hs => rfl); (case hx => rfl); (case hb => omega); (case hb' => simp only [maxLen]; omega); (case hd => rfl); (case h1 => first | assumption); (case hν => intro e he; first | exact he | fail); intro v1 n1 g1) | fail)
     all_goals (first | ((apply d_exec 10; (case hi => rfl); (case hr => kernel_rfl);  (case hop => exact m_appendCap (e := 3) (sz := 1) (m := a) (m' := 1 + (L.length - a)) (xs := (L.take a).map (Value.int .i64 ·)) (us := [Value.int .i64 nn] ++ (L.drop a).map (Value.int .i64 ·)) rfl (by omega) rfl rfl (hs10 _) (Grow.src g1 (by intro e he; simp [he])) (by omega) (allOne_ints (k := .i64) (nn :: L.drop a)) (by omega) (by simp only [maxLen]; omega)); (case hd => rfl); rintro v2 _ _ ⟨n2, g2, rfl, rfl⟩; refine ⟨(by intro e he; cases he), ?_⟩)) | fail)
     all_goals (first | (apply d_take 11; (case hi => rfl); (case hop => first | (apply PureOp.read; apply p_assign <;> rfl)); (case hf => kernel_rfl); (case hr => kernel_rfl); (case hd => rfl)) | fail)
     all_goals (apply d_done; (case hr => kernel_rfl))
     repeat' (first | apply v_region | apply v_nil | apply v_blk | (apply v_pure; (case hop => first | (apply p_move <;> rfl) | (apply p_assign <;> rfl) | (apply p_add; (case hx => rfl); (case hy => rfl); (case h => omega)) | fail); (case hd => rfl)) | fail)
     refine v_frz n2 (by repeat (first | exact PickA.here _ | fail)) ?_
     intro G4 hle4 hG4
     have hlen : (L.take a ++ (nn :: L.drop a)).length = a + (1 + (L.length - a)) := by simp only [List.length_append, List.length_cons, List.length_drop, htl]; omega
     have g3 : Grow 3 1 v2 (L.take a ++ (nn :: L.drop a)).length ((L.take a ++ (nn :: L.drop a)).map (Value.int .i64 ·)) n2 := by
       rw [hlen]
       simpa using g2
     refine v_drop (ν := []) (by simp) ?_
     refine v_again rfl ⟨GH.le_trans hle hle4, rfl, k + 1, v2, _, by omega, by rw [hlen]; omega, rfl, ?_, g3.ints hG4 ?_⟩ (by simp [headI]; omega)
     · subst hge
       exact openS_put hlt hS (by omega) hnin ha hlo hhi
     · intro y hy
       rcases List.mem_append.1 hy with hy | hy
       · exact hwf2 y (List.mem_of_mem_take hy)
       · rcases List.mem_cons.1 hy with rfl | hy
         · exact hwk
         · exact hwf2 y (List.mem_of_mem_drop hy))
end Go.Proofs.Ytgflmkhfachlcaa
/-
  tally (layer 34): the law's own functions; votes as the law counts them.
-/
set_option linter.unusedSimpArgs false
set_option linter.unusedVariables false
namespace Go.Proofs.Ytgflmkhfachlcaa
open Go.Vx Go.ChangeShapes Go.WideShapes Go.ChangeAt Go.RowKit
theorem vote_counts {r n low : Int} {got : List Vt} {V : Vs} (h : TInv got low V) (v : Vt) : voteC r n low V v.r v.n v.index v.node ↔ countsP r n got low v := by
  unfold voteC countsP
  constructor
  · rintro ⟨h1, h2, h3, h4, h5, h6, h7⟩
    refine ⟨h1, h2, h3, h4, h5, h6, fun h8 => ?_⟩
    have := (h.bit v.index h4 v.node.toNat).2 (by rwa [Int.toNat_of_nonneg (by omega)])
    rw [h7] at this
    cases this
  · rintro ⟨h1, h2, h3, h4, h5, h6, h7⟩
    refine ⟨h1, h2, h3, h4, h5, h6, ?_⟩
    cases hb : (nget V v.index).testBit v.node.toNat with
    | false => rfl
    | true =>
      have := (h.bit v.index h4 v.node.toNat).1 hb
      rw [Int.toNat_of_nonneg (by omega)] at this
      exact absurd this h7
theorem TInv.next {r n low : Int} {got : List Vt} {V : Vs} (h : TInv got low V) (v : Vt) : TInv (if countsP r n got low v then got ++ [v] else got) low (voteV r n low V v.r v.n v.index v.node) := by
  unfold voteV
  by_cases hc : countsP r n got low v
  · have h1 := (vote_counts h v).2 hc
    rw [if_pos h1, if_pos hc]
    exact h.vote (nd := v.node.toNat) hc.2.2.2.1 (by rw [Int.toNat_of_nonneg (by have := hc.2.2.2.2.1; omega)]) (by have := hc.2.2.2.2.1; have := hc.2.2.2.2.2.1; omega)
  · rw [if_neg fun h1 => hc ((vote_counts h v).1 h1), if_neg hc]
    exact h
theorem open_eq {low : Int} {got : List Vt} {V : Vs} {L : List Int} (h : TInv got low V) (hL : openS got low L) : sortL (V.map (·.1)) = L := by
  have hp := sortL_perm (V.map (·.1))
  have hnd := hp.nodup_iff.2 h.keys
  refine lt_ext ?_ hL.1 fun x => ?_
  · refine (List.Pairwise.and (sortL_le _) hnd).imp ?_
    rintro a b ⟨h1, h2⟩
    have : a ≠ b := h2
    omega
  · rw [hp.mem_iff, hL.2]
    constructor
    · intro hx
      have hlow := h.low x hx
      refine ⟨hlow, ?_⟩
      have hne := h.pos x hx
      obtain ⟨nd, hb⟩ : ∃ nd, (nget V x).testBit nd = true := Nat.exists_testBit_of_ne_zero hne
      obtain ⟨g, hg, h1, -⟩ := (h.bit x hlow nd).1 hb
      exact ⟨g, hg, h1⟩
    · rintro ⟨hlow, g, hg, rfl⟩
      have hn := h.node g hg
      have hb := (h.bit g.index hlow g.node.toNat).2 ⟨g, hg, rfl, by rw [Int.toNat_of_nonneg (by omega)]⟩
      refine Decidable.byContradiction fun hno => ?_
      rw [nget_no hno] at hb
      simp at hb
theorem intsB_self (l : List Int) : intsB l l = true := by
  unfold intsB
  simp
theorem awake34_s {G : GH} : Con Try.prog 9 #[] G [] (fun v _ _ => v = .bool true) := by
  have m0 : MapB keyI (vl []) (.map #[] 0) := MapB.nil
  (refine v_enter Try.func9 rfl Try.ntmps9 rfl ?_; intro B _)
  repeat' (first | apply v_seq | apply v_region | apply v_nil | (apply v_pure; (case hop => first | (apply p_assign <;> rfl) | (apply p_build; (case hz => rfl); (case hv => (simp only [List.map_cons, List.map_nil]; repeat (first | with_reducible exact evs_nil | (apply evs_cons; (case h1 => rfl))))); (case hb => (apply bldL; repeat (first | exact bld_nil | (apply bld_cons; (case hpf => rfl); (case hc => rfl); (case hs => rfl); (case hl => rfl); (case ho => (first | ((repeat (first | with_reducible exact ov_nil | apply ov_cons | fail)); done) | fail))))))) | fail); (case hd => rfl)) | (apply v_alloc (zs := [.int .i64 0, .int .i64 0]); (case hz => rfl); (case hd => rfl); intro bb) | (apply v_read; (case hop => (apply r_loadNo; (case hx => rfl); (case h => repeat (first | exact List.Mem.head _ | fail)); (case hd => rfl); (case hn => rfl))); (case hd => rfl)) | (apply v_store; (case hp => rfl); (case hx => rfl); (case hc => rfl); (case hsz => rfl); (case h1 => rfl); (case hb => (repeat (first | exact List.Mem.head _ | fail))); (case hfit => first | exact Nat.le_of_ble_eq_true rfl | fail); (case hov => (first | ((repeat (first | with_reducible exact ov_nil | apply ov_cons | fail)); done) | fail)); (case hu => repeat (first | exact Upd.here _ _ | fail))) | fail)
  refine v_call (μ1 := []) (μ2 := [(bb, .cells [.int .i64 1, .int .i64 1].toArray 26 (0, 0))]) rfl (tnew_s 1 1) (List.Perm.refl _) rfl ?_
  rintro _ G1 _ - ⟨hG1, t, m, rfl, rfl⟩
  subst G1
  have q1 := vote_s (G := G) (r := 1) (n := 1) (low := 0) (t := t) (m := m) 1 1 7 1 m0 TInv.zero.small
  rw [decide_eq_true (by unfold voteC; decide), show voteV 1 1 0 [] 1 1 7 1 = [(7, 2)] from by unfold voteV; rw [if_pos (by unfold voteC; decide)]; rfl] at q1
  repeat' (first | apply v_seq | apply v_region | apply v_nil | (apply v_pure; (case hop => first | (apply p_move <;> rfl) | (apply p_assign <;> rfl) | fail); (case hd => rfl)) | (apply v_read; (case hop => (apply r_loadNo; (case hx => rfl); (case h => repeat (first | exact List.Mem.head _ | apply List.Mem.tail)); (case hd => rfl); (case hn => rfl))); (case hd => rfl)) | fail)
  refine v_call (μ1 := [(t, _), (m, _)]) (μ2 := [(bb, .cells [.int .i64 1, .int .i64 1].toArray 26 (0, 0))]) rfl q1 (List.Perm.refl _) rfl ?_
  rintro _ G1 _ - ⟨hG1, rfl, oM1, m1, rfl⟩
  subst G1
  have s1 : ∀ j, nget [((7 : Int), 2)] j < 1024 := fun j => by
    unfold nget
    simp only [List.find?_cons, List.find?_nil]
    split <;> simp
  have s2 : ∀ j, nget [((7 : Int), 10)] j < 1024 := fun j => by
    unfold nget
    simp only [List.find?_cons, List.find?_nil]
    split <;> simp
  have q2 := vote_s (G := G) (r := 1) (n := 1) (low := 0) (t := t) (m := m) 1 1 7 3 m1 s1
  rw [decide_eq_true (by unfold voteC; decide), show voteV 1 1 0 [(7, 2)] 1 1 7 3 = [(7, 10)] from by unfold voteV; rw [if_pos (by unfold voteC; decide)]; rfl] at q2
  repeat' (first | (apply v_take; (case hg => rfl)) | (apply v_pure; (case hop => first | (apply p_move <;> rfl) | fail); (case hd => rfl)) | (apply v_read; (case hop => (apply r_loadNo; (case hx => rfl); (case h => repeat (first | exact List.Mem.head _ | apply List.Mem.tail)); (case hd => rfl); (case hn => rfl))); (case hd => rfl)) | fail)
  refine v_call (μ1 := [(t, _), (m, _)]) (μ2 := [(bb, .cells [.int .i64 1, .int .i64 1].toArray 26 (0, 0))]) rfl q2 (List.Perm.refl _) rfl ?_
  rintro _ G1 _ - ⟨hG1, rfl, oM2, m2, rfl⟩
  subst G1
  have q3 := vote_s (G := G) (r := 1) (n := 1) (low := 0) (t := t) (m := m) 1 1 7 3 m2 s2
  rw [decide_eq_false (by unfold voteC; decide), show voteV 1 1 0 [(7, 10)] 1 1 7 3 = [(7, 10)] from by unfold voteV; rw [if_neg (by unfold voteC; decide)]] at q3
  repeat' (first | (apply v_take; (case hg => rfl)) | (apply v_pure; (case hop => first | (apply p_move <;> rfl) | (apply p_pickT <;> rfl) | fail); (case hd => rfl)) | (apply v_read; (case hop => (apply r_loadNo; (case hx => rfl); (case h => repeat (first | exact List.Mem.head _ | apply List.Mem.tail)); (case hd => rfl); (case hn => rfl))); (case hd => rfl)) | fail)
  refine v_call (μ1 := [(t, _), (m, _)]) (μ2 := [(bb, .cells [.int .i64 1, .int .i64 1].toArray 26 (0, 0))]) rfl q3 (List.Perm.refl _) rfl ?_
  rintro _ G1 _ - ⟨hG1, rfl, oM3, m3, rfl⟩
  subst G1
  repeat' (first | (apply v_take; (case hg => rfl)) | (apply v_pure; (case hop => first | (apply p_move <;> rfl) | (apply p_pickT <;> rfl) | (apply p_not <;> rfl) | fail); (case hd => rfl)) | (apply v_buildSlice; (case hz => rfl); (case hi => rfl); (case hv => (simp only [List.map_cons, List.map_nil]; repeat (first | with_reducible exact evs_nil | (apply evs_cons; (case h1 => rfl))))); (case hp => (first | (apply pk_cons; (case hc => rfl); (case hs => rfl); (case h => (first | (apply pk_cons; (case hc => rfl); (case hs => rfl); (case h => (first | (apply pk_cons; (case hc => rfl); (case hs => rfl); (case h => (first | with_reducible exact pk_nil | fail)); (case he => (first | ((repeat (first | with_reducible exact ap_nil | apply ap_cons)); done) | fail))) | fail)); (case he => (first | ((repeat (first | with_reducible exact ap_nil | apply ap_cons)); done) | fail))) | fail)); (case he => (first | ((repeat (first | with_reducible exact ap_nil | apply ap_cons)); done) | fail))) | fail)); (case hb => rfl); (case hd => rfl); intro b) | fail)
  refine v_frz [(b, .cells [Value.int .i64 1, .int .i64 2, .int .i64 3].toArray 3 (0, 0))] (by repeat (first | exact PickA.here _ | fail)) ?_
  intro G2 hle2 hG2
  have hm : Sl G2 1 (IntR .i64) (.slice (some ⟨b, 0, none⟩) 3 3) [1, 2, 3] := Grow.ints (l := [1, 2, 3]) (Grow.lit (b := b) (m := 3) rfl (by simp only [maxLen]; omega)) hG2 (by decide)
  have q4 := won_s (G := G2) (r := 1) (n := 1) (low := 0) (t := t) (m := m) 7 m3 s2 hm (by simp)
  rw [show majB [1, 2, 3] (nodesB (nget [((7 : Int), 10)] 7)) = true from by rw [maj_ref]; decide] at q4
  repeat' (first | (apply v_take; (case hg => rfl)) | (apply v_pure; (case hop => first | (apply p_move <;> rfl) | (apply p_pickT <;> rfl) | fail); (case hd => rfl)) | (apply v_callK (hs := q4); (case ha => rfl); (case hp => exact List.Perm.refl _); (case hd => rfl)) | fail)
  have q5 := open_s (G := G2) (r := 1) (n := 1) (low := 0) (t := t) (m := m) m3 (by simp)
  rw [show sortL ([((7 : Int), 10)].map (·.1)) = [7] from List.perm_singleton.1 (sortL_perm _)] at q5
  refine v_call (μ1 := [(t, _), (m, _)]) (μ2 := _) rfl q5 (List.Perm.refl _) rfl ?_
  rintro v3 G3 _ - ⟨hG3, ν, hg, rfl⟩
  subst G3
  rw [List.append_assoc]
  refine v_frz ν (PickA.here _) ?_
  intro G4 hle4 hG4
  have hv3 := hg.ints (l := [7]) hG4 (by decide)
  repeat' (first | (apply v_take; (case hg => rfl)) | (apply v_buildSlice; (case hz => rfl); (case hi => rfl); (case hv => (simp only [List.map_cons, List.map_nil]; repeat (first | with_reducible exact evs_nil | (apply evs_cons; (case h1 => rfl))))); (case hp => (first | (apply pk_cons; (case hc => rfl); (case hs => rfl); (case h => (first | with_reducible exact pk_nil | fail)); (case he => (first | ((repeat (first | with_reducible exact ap_nil | apply ap_cons)); done) | fail))) | fail)); (case hb => rfl); (case hd => rfl); intro b) | fail)
  refine v_frz [(b, .cells [Value.int .i64 7].toArray 3 (0, 0))] (by repeat (first | exact PickA.here _ | fail)) ?_
  intro G5 hle5 hG5
  have q6 := ints_s (hv3.mono hle5) (Grow.ints (v := .slice (some ⟨b, 0, none⟩) 1 1) (l := [7]) (Grow.lit (b := b) (m := 1) rfl (by simp only [maxLen]; omega)) hG5 (by decide))
  rw [intsB_self] at q6
  repeat' (first | apply v_nil | (apply v_pure; (case hop => first | (apply p_assign <;> rfl) | (apply p_pickT <;> rfl) | fail); (case hd => rfl)) | (apply v_callJ (hs := q6); (case ha => rfl); (case hd => rfl)) | fail)
  exact v_ret [] (outsA1 rfl rfl) (List.nil_sublist _) rfl
def BalR (x : Int × Int) (cs : List Value) : Prop := cs = [.int .i64 x.1, .int .i64 x.2]
theorem el_bal {H : Type} {enc : TypeId × Value → H} {W : World} : Elem enc Try.prog W 26 BalR := by
  intro fuel cs x hx
  have h1 := el_flen (n := 2) Try.underlying26 (by kernel_rfl) hx
  obtain ⟨i, hi⟩ := el_fld (i := 0) (sz := 1) (by kernel_rfl) (el_int Try.underlying3) hx
  obtain ⟨n, hn⟩ := el_fld (i := 1) (sz := 1) (by kernel_rfl) (el_int Try.underlying3) hx
  match cs, h1, hi, hn with
  | [c0, c1], _, hi, hn =>
    obtain ⟨hi, _⟩ := hi
    obtain ⟨hn, _⟩ := hn
    simp at hi hn
    subst hi; subst hn
    exact ⟨(i, n), rfl⟩
theorem el_vt {H : Type} {enc : TypeId × Value → H} {W : World} : Elem enc Try.prog W 36 VtR := by
  intro fuel cs x hx
  have h1 := el_flen (n := 5) Try.underlying36 (by kernel_rfl) hx
  obtain ⟨y, hy⟩ := el_fld (i := 0) (sz := 2) (by kernel_rfl) (el_bal (H := H) (enc := enc) (W := W)) hx
  obtain ⟨i, hi⟩ := el_fld (i := 1) (sz := 1) (by kernel_rfl) (el_int Try.underlying3) hx
  obtain ⟨n, hn⟩ := el_fld (i := 2) (sz := 1) (by kernel_rfl) (el_int Try.underlying3) hx
  obtain ⟨d, hd⟩ := el_fld (i := 3) (sz := 1) (by kernel_rfl) (el_bool Try.underlying4) hx
  match cs, h1, hy, hi, hn, hd with
  | [c0, c1, c2, c3, c4], _, hy, hi, hn, hd =>
    obtain ⟨hi, hw⟩ := hi
    obtain ⟨hn, _⟩ := hn
    simp [BoolR, BalR] at hy hi hn hd
    obtain ⟨rfl, rfl⟩ := hy
    subst hi; subst hn; subst hd
    exact ⟨⟨y.1, y.2, i, n, d⟩, rfl, hw⟩
end Go.Proofs.Ytgflmkhfachlcaa
/-
  tally (layer 34): the law TallyVotes.
-/
set_option linter.unusedSimpArgs false
set_option linter.unusedVariables false
namespace Go.Proofs.Ytgflmkhfachlcaa
open Go.Vx Go.ChangeShapes Go.WideShapes Go.ChangeAt Go.RowKit
set_option maxRecDepth 100000 in
theorem arg_t22 {H : Type} {enc : TypeId × Value → H} {W : World} {base : Nat} {v : Value} {d : DataW H} {p : List MemPlace} (hv : Value.okWide Try.prog W .any base 22 v) (h : DataW.Trod enc Try.prog W 0 (fun _ => true) true 22 v d p) : ∃ l, Sl (ghost W) 1 (IntR .i64) v l :=
  arg_slice Try.underlying22 (by kernel_rfl) (el_int Try.underlying3) hv h
set_option maxRecDepth 100000 in
theorem arg_t3 {H : Type} {enc : TypeId × Value → H} {W : World} {base : Nat} {v : Value} {d : DataW H} {p : List MemPlace} (hv : Value.okWide Try.prog W .any base 3 v) (h : DataW.Trod enc Try.prog W 0 (fun _ => true) true 3 v d p) : ∃ a, v = .int .i64 a ∧ (Lit.int .i64 a).wf = true := arg_int Try.underlying3 hv h
set_option maxRecDepth 100000 in
theorem arg_t34 {H : Type} {enc : TypeId × Value → H} {W : World} {base : Nat} {v : Value} {d : DataW H} {p : List MemPlace} (hv : Value.okWide Try.prog W .any base 34 v) (h : DataW.Trod enc Try.prog W 0 (fun _ => true) true 34 v d p) : ∃ l, Sl (ghost W) 5 VtR v l :=
  arg_slice Try.underlying34 (by kernel_rfl) el_vt hv h
theorem vtB {G : GH} {A : Option Addr} {l : List Vt} (hcp : ∀ i (h : i < l.length), CellsG G ((adr A).add (i * 5)) l[i].cells) (i : Nat) (h : i < l.length) : CellsG G (((adr A).add (i * 5)).add 0) [.int .i64 l[i].r, .int .i64 l[i].n] := by
  have := (hcp i h).take 2
  rw [add_add, Nat.add_zero]
  exact this
theorem vtD {G : GH} {A : Option Addr} {l : List Vt} (hcp : ∀ i (h : i < l.length), CellsG G ((adr A).add (i * 5)) l[i].cells) (i : Nat) (h : i < l.length) : GH.cell? G (((adr A).add (i * 5)).add 4) = some (.bool l[i].drop) := (hcp i h).cell (j := 4) rfl
def voteW (W : List Vt) : List Value := (W.map Vt.cells).flatten
theorem voteW_add (W : List Vt) (x : Vt) : voteW (W ++ [x]) = voteW W ++ x.cells := by simp [voteW]
theorem voteW_sl {v : Value} {l : List Vt} {ν : OH} (h : Grow 36 5 v l.length (voteW l) ν) {G' : GH} (hG : ∀ b o, (b, o) ∈ ν → G' b = some o) (hw : ∀ x ∈ l, (Lit.int .i64 x.index).wf = true) : Sl G' 5 VtR v l := by
  refine Grow.sl (css := l.map Vt.cells) h hG (by simp) fun i x cs hx hcs => ?_
  rw [List.getElem?_map, hx] at hcs
  simp only [Option.map_some, Option.some.injEq] at hcs
  subst hcs
  exact ⟨rfl, rfl, hw x (List.mem_of_getElem? hx)⟩
theorem nput_len {V : Vs} {i : Int} {x : Nat} : (nput V i x).length ≤ V.length + 1 := by
  unfold nput
  split <;> simp
theorem voteV_len {r n low : Int} {V : Vs} {r' n' i nd : Int} : (voteV r n low V r' n' i nd).length ≤ V.length + 1 := by
  unfold voteV
  split
  · exact nput_len
  · omega
theorem ndrop_len {V : Vs} {i : Int} : (ndrop V i).length ≤ V.length := List.length_filter_le _ _
theorem tallyVotes_law {W : World} {v0 v1 v2 : Value} (g0 : ∃ l, Sl (ghost W) 5 VtR v0 l) (g1 : ∃ a, v1 = .int .i64 a ∧ (Lit.int .i64 a).wf = true) (g2 : ∃ l, Sl (ghost W) 1 (IntR .i64) v2 l) : LawCon Try.prog 4 #[v0, v1, v2] W := by
  obtain ⟨l, hl⟩ := g0
  obtain ⟨x, rfl, hxw⟩ := g1
  obtain ⟨mem, hm⟩ := g2
  unfold LawCon
  generalize ghost W = G at *
  have qw := awake34_s (G := G)
  obtain ⟨A, c, rfl, hlc, hcm, hsome, hcp, hwf⟩ := vtOpen hl
  obtain ⟨A1, c1, rfl, hlc1, hcm1, hsome1, hel1, hwl1⟩ := id hm.openInt
  simp only [maxLen] at hcm hcm1
  (refine v_enter Try.func4 rfl Try.ntmps4 rfl ?_; intro B _)
  by_cases hbig : 60 < l.length ∨ 60 < mem.length
  · repeat' (first | apply v_seq | apply v_region | apply v_nil | (apply v_take; (case hg => rfl)) | (apply v_pass; (case hg => rfl); (case hn => rfl); (case hd => rfl)) | (apply v_pure; (case hop => first | (apply p_move <;> rfl) | (apply p_gt <;> rfl) | (apply p_assign <;> rfl) | (apply p_pickT <;> rfl) | (apply p_pickF <;> rfl) | (apply p_lenSlice <;> rfl) | fail); (case hd => rfl)) | (apply v_condT; (case hc => rfl)) | (apply v_cond; (case hc => rfl); all_goals (intro h; (try simp only [reduceCtorEq, dec_true, dec_false, decide_eq_true_eq, decide_eq_false_iff_not, Bool.not_eq_true', Bool.not_eq_false', Option.isNone_iff_eq_none, beq_true, beq_false, beq_iff_eq, beq_eq_false_iff_ne, ne_eq, decide_eq_decide, Bool.not_eq_true, Bool.not_eq_false, Decidable.not_not] at h); first | (exfalso; omega) | skip)) | (apply v_guardB; (case h1 => rfl); (case h2 => rfl); all_goals (intro h; (try simp only [reduceCtorEq, dec_true, dec_false, decide_eq_true_eq, decide_eq_false_iff_not, Bool.not_eq_true', Bool.not_eq_false', Option.isNone_iff_eq_none, beq_true, beq_false, beq_iff_eq, beq_eq_false_iff_ne, ne_eq, decide_eq_decide, Bool.not_eq_true, Bool.not_eq_false, Decidable.not_not] at h); first | skip)) | fail)
    all_goals first
      | (exfalso; omega)
      | (refine v_call (μ1 := []) (μ2 := []) rfl qw (List.Perm.refl _) rfl ?_
         rintro _ G2 μ2 - rfl
         repeat' (first | apply v_nil | (apply v_pure; (case hop => first | (apply p_assign <;> rfl) | fail); (case hd => rfl)) | fail)
         exact v_ret [] (outsA1 rfl rfl) (List.nil_sublist _) rfl)
  repeat' (first | apply v_seq | apply v_region | apply v_nil | apply v_skip | (apply v_take; (case hg => rfl)) | (apply v_pure; (case hop => first | (apply p_move <;> rfl) | (apply p_gt <;> rfl) | (apply p_assign <;> rfl) | (apply p_pickF <;> rfl) | (apply p_lenSlice <;> rfl) | (apply p_build; (case hz => rfl); (case hv => (simp only [List.map_cons, List.map_nil]; repeat (first | with_reducible exact evs_nil | (apply evs_cons; (case h1 => rfl))))); (case hb => (apply bldL; repeat (first | exact bld_nil | (apply bld_cons; (case hpf => rfl); (case hc => rfl); (case hs => rfl); (case hl => rfl); (case ho => (first | ((repeat (first | with_reducible exact ov_nil | apply ov_cons | fail)); done) | fail))))))) | fail); (case hd => rfl)) | (apply v_cond; (case hc => rfl); all_goals (intro h; (try simp only [reduceCtorEq, dec_true, dec_false, decide_eq_true_eq, decide_eq_false_iff_not, Bool.not_eq_true', Bool.not_eq_false', Option.isNone_iff_eq_none, beq_true, beq_false, beq_iff_eq, beq_eq_false_iff_ne, ne_eq, decide_eq_decide, Bool.not_eq_true, Bool.not_eq_false, Decidable.not_not] at h); first | (exfalso; omega) | skip)) | (apply v_guardB; (case h1 => rfl); (case h2 => rfl); all_goals (intro h; (try simp only [reduceCtorEq, dec_true, dec_false, decide_eq_true_eq, decide_eq_false_iff_not, Bool.not_eq_true', Bool.not_eq_false', Option.isNone_iff_eq_none, beq_true, beq_false, beq_iff_eq, beq_eq_false_iff_ne, ne_eq, decide_eq_decide, Bool.not_eq_true, Bool.not_eq_false, Decidable.not_not] at h); first | (exfalso; omega) | skip)) | (apply v_alloc (zs := [.int .i64 0, .int .i64 0]); (case hz => rfl); (case hd => rfl); intro bb) | (apply v_read; (case hop => (apply r_loadNo; (case hx => rfl); (case h => repeat (first | exact List.Mem.head _ | fail)); (case hd => rfl); (case hn => rfl))); (case hd => rfl)) | (apply v_store; (case hp => rfl); (case hx => rfl); (case hc => rfl); (case hsz => rfl); (case h1 => rfl); (case hb => (repeat (first | exact List.Mem.head _ | fail))); (case hfit => first | exact Nat.le_of_ble_eq_true rfl | fail); (case hov => (first | ((repeat (first | with_reducible exact ov_nil | apply ov_cons | fail)); done) | fail)); (case hu => repeat (first | exact Upd.here _ _ | fail))) | fail)
  refine v_call (μ1 := []) (μ2 := [(bb, .cells [.int .i64 2, .int .i64 1].toArray 26 (0, 0))]) rfl (tnew_s 2 1) (List.Perm.refl _) rfl ?_
  rintro _ G1 _ - ⟨hG1, t, m, rfl, rfl⟩
  subst G1
  repeat' (first | apply v_seq | apply v_region | apply v_nil | apply v_block | (apply v_pure; (case hop => first | (apply p_assign <;> rfl) | fail); (case hd => rfl)) | fail)
  refine v_loop [11, 9, 10, 8, 7, 0, 1, 2] (fun us G' μ' => G' = G ∧ ∃ (k : Nat) (got : List Vt) (low : Int) (V : Vs) (oM : Obj) (gv : Value) (ν : OH), k ≤ l.length ∧ got.length ≤ k ∧ us = [Value.int .i64 (k : Nat), gv, .int .i64 low, .pointer (some ⟨t, 0, none⟩), .pointer (some ⟨bb, 0, none⟩), .slice A l.length c, .int .i64 x, .slice A1 mem.length c1] ∧ TInv got low V ∧ MapB keyI (vl V) oM ∧ V.length ≤ k ∧ Grow 36 5 gv got.length (voteW got) ν ∧ (∀ y ∈ got, (Lit.int .i64 y.index).wf = true) ∧ μ' = (t, tO 2 1 m low) :: (m, oM) :: (bb, .cells [.int .i64 2, .int .i64 1].toArray 26 (0, 0)) :: ν) (fun us => l.length - (headI us).toNat) rfl ⟨rfl, 0, [], 0, [], _, _, [], by omega, by simp, rfl, TInv.zero, MapB.nil, by simp, Grow.nil _ _, by simp, rfl⟩ ?_
  rintro us G' _ ⟨rfl, k, got, low, V, oM, gv, ν, hk, hgk, rfl, hT, hM, hVk, hg, hgw, rfl⟩
  have e1 : ((k : Nat) : Int).toNat = k := by omega
  by_cases hlt : k < l.length
  · have hA := hsome (by omega)
    have hI := vtI hcp k hlt
    have hN := vtN hcp k hlt
    have hB := vtB hcp k hlt
    have hD := vtD hcp k hlt
    have hC := hcp k hlt
    have hwk := hwf _ (List.getElem_mem hlt)
    have hvc : decide (voteC 2 1 low V l[k].r l[k].n l[k].index l[k].node) = decide (countsP 2 1 got low l[k]) := decide_eq_decide.2 (vote_counts hT _)
    have qd := drop_s (G := G') (r := 2) (n := 1) (low := low) (t := t) (m := m) l[k].index hM
    have qv := vote_s (G := G') (r := 2) (n := 1) (low := low) (t := t) (m := m) l[k].r l[k].n l[k].index l[k].node hM hT.small
    have qc := Con.lendJ (P := Try.prog) (f := 16) (args := #[.agg #[.int .i64 2, .int .i64 1], gv, .int .i64 low, .agg l[k].cells.toArray]) (G := G') (ν := ν) (v := .bool (decide (countsP 2 1 got low l[k]))) fun G2 h1 h2 => counts_s 2 1 low l[k] (voteW_sl hg h2 hgw)
    have hT1 := hT.next (r := 2) (n := 1) l[k]
    have hT2 := hT.drop l[k].index
    have hl1 := voteV_len (r := 2) (n := 1) (low := low) (V := V) (r' := l[k].r) (n' := l[k].n) (i := l[k].index) (nd := l[k].node)
    have hl2 := ndrop_len (V := V) (i := l[k].index)
    rw [hvc] at qv
    repeat' (first | apply v_seq | apply v_region | apply v_nil | apply v_skip | apply v_block | (apply v_pure; (case hop => first | (apply p_move <;> rfl) | (apply p_lt <;> rfl) | (apply p_lenSlice <;> rfl) | (apply p_fieldAddr <;> rfl) | (apply p_indexAddrS; (case hx => rfl); (case hi => rfl); (case h0 => omega); (case h => omega); (case hA => first | assumption | fail)) | fail); (case hd => rfl)) | (apply v_cond; (case hc => rfl); all_goals (intro h; (try simp only [reduceCtorEq, dec_true, dec_false, decide_eq_true_eq, decide_eq_false_iff_not, Bool.not_eq_true', Bool.not_eq_false', Option.isNone_iff_eq_none, beq_true, beq_false, beq_iff_eq, beq_eq_false_iff_ne, ne_eq, decide_eq_decide, Bool.not_eq_true, Bool.not_eq_false, Decidable.not_not] at h); first | (exfalso; omega) | skip)) | (apply v_read; (case hop => first | (apply r_load1; rfl; exact Cell.frozen hD) | (apply r_load1; rfl; exact Cell.frozen hI)); (case hd => rfl)) | fail)
    · refine v_call (μ1 := [(t, _), (m, _)]) (μ2 := (bb, .cells [.int .i64 2, .int .i64 1].toArray 26 (0, 0)) :: ν) rfl qd (List.Perm.refl _) rfl ?_
      rintro _ G1 _ - ⟨rfl, hG1, oM2, hM2, rfl⟩
      subst G1
      repeat' (first | apply v_seq | apply v_region | apply v_nil | (apply v_exit; (case hp => rfl)) | (apply v_pure; (case hop => first | (apply p_move <;> rfl) | (apply p_assign <;> rfl) | (apply p_fieldAddr <;> rfl) | (apply p_add; (case hx => rfl); (case hy => rfl); (case h => omega)) | (apply p_max <;> rfl) | (apply p_indexAddrS; (case hx => rfl); (case hi => rfl); (case h0 => omega); (case h => omega); (case hA => first | assumption | fail)) | fail); (case hd => rfl)) | (apply v_read; (case hop => first | (apply r_load1; rfl; exact Cell.frozen hI)); (case hd => rfl)) | fail)
      exact v_again rfl ⟨rfl, k + 1, got, _, _, oM2, gv, ν, by omega, by omega, rfl, hT2, hM2, by omega, hg, hgw, rfl⟩ (by simp [headI]; omega)
    · refine d_start _ (by kernel_rfl) (by kernel_rfl) (by kernel_rfl) (fun _ he => he) ?_
      all_goals (first | (apply d_take 0; (case hi => rfl); (case hop => first | ((apply r_loadNo; (case hx => rfl); (case h => repeat (first | exact List.Mem.head _ | apply List.Mem.tail)); (case hd => rfl); (case hn => rfl))) | fail); (case hf => kernel_rfl); (case hr => kernel_rfl); (case hd => rfl)) | fail)
      all_goals (first | (apply d_take 1; (case hi => rfl); (case hop => first | (apply PureOp.read; apply p_move <;> rfl)); (case hf => kernel_rfl); (case hr => kernel_rfl); (case hd => rfl)) | fail)
      all_goals (first | (apply d_take 2; (case hi => rfl); (case hop => first | (apply PureOp.read; apply p_move <;> rfl)); (case hf => kernel_rfl); (case hr => kernel_rfl); (case hd => rfl)) | fail)
      all_goals (first | (apply d_take 3; (case hi => rfl); (case hop => first | (apply PureOp.read; apply p_move <;> rfl)); (case hf => kernel_rfl); (case hr => kernel_rfl); (case hd => rfl)) | fail)
      all_goals (first | (apply d_take 4; (case hi => rfl); (case hop => first | (apply PureOp.read; apply p_move <;> rfl)); (case hf => kernel_rfl); (case hr => kernel_rfl); (case hd => rfl)) | fail)
      all_goals (first | (apply d_take 5; (case hi => rfl); (case hop => first | (apply PureOp.read; apply p_indexAddrS; (case hx => rfl); (case hi => rfl); (case h0 => omega); (case h => omega); (case hA => first | assumption | fail))); (case hf => kernel_rfl); (case hr => kernel_rfl); (case hd => rfl)) | fail)
      all_goals (first | (apply d_take 6; (case hi => rfl); (case hop => first | ((apply r_loadN; rfl; exact CellsAt.frozen hC; rfl)) | fail); (case hf => kernel_rfl); (case hr => kernel_rfl); (case hd => rfl)) | fail)
      all_goals (first | ((apply d_callK 7 (hs := qc); (case hi => rfl); (case hr => kernel_rfl);  (case ha => rfl); (case hp => exact (List.perm_append_comm (l₁ := [(t, tO 2 1 m low), (m, oM), (bb, Obj.cells [Value.int .i64 2, Value.int .i64 1].toArray 26 (0, 0))]) (l₂ := ν))); (case hd => rfl))) | fail)
      all_goals (first | (apply d_take 8; (case hi => rfl); (case hop => first | (apply PureOp.read; apply p_assign <;> rfl)); (case hf => kernel_rfl); (case hr => kernel_rfl); (case hd => rfl)) | fail)
      all_goals (apply d_done; (case hr => kernel_rfl))
      clear qc
      generalize hcb : decide (countsP 2 1 got low l[k]) = cb at *
      repeat' (first | apply v_seq | fail)
      refine d_start [] (by kernel_rfl) (by kernel_rfl) (by kernel_rfl) (by intro e he; first | (simp at he ⊢; try omega)) ?_
      all_goals (first | (apply d_take 0; (case hi => rfl); (case hop => first | (apply PureOp.read; apply p_move <;> rfl)); (case hf => kernel_rfl); (case hr => kernel_rfl); (case hd => rfl)) | fail)
      all_goals (first | (apply d_take 1; (case hi => rfl); (case hop => first | (apply PureOp.read; apply p_move <;> rfl)); (case hf => kernel_rfl); (case hr => kernel_rfl); (case hd => rfl)) | fail)
      all_goals (first | (apply d_take 2; (case hi => rfl); (case hop => first | (apply PureOp.read; apply p_move <;> rfl)); (case hf => kernel_rfl); (case hr => kernel_rfl); (case hd => rfl)) | fail)
      all_goals (first | (apply d_take 3; (case hi => rfl); (case hop => first | (apply PureOp.read; apply p_indexAddrS; (case hx => rfl); (case hi => rfl); (case h0 => omega); (case h => omega); (case hA => first | assumption | fail))); (case hf => kernel_rfl); (case hr => kernel_rfl); (case hd => rfl)) | fail)
      all_goals (first | (apply d_take 4; (case hi => rfl); (case hop => first | (apply PureOp.read; apply p_fieldAddr <;> rfl)); (case hf => kernel_rfl); (case hr => kernel_rfl); (case hd => rfl)) | fail)
      all_goals (first | (apply d_take 5; (case hi => rfl); (case hop => first | ((apply r_loadN; rfl; exact CellsAt.frozen hB; rfl)) | fail); (case hf => kernel_rfl); (case hr => kernel_rfl); (case hd => rfl)) | fail)
      all_goals (first | (apply d_take 6; (case hi => rfl); (case hop => first | (apply PureOp.read; apply p_move <;> rfl)); (case hf => kernel_rfl); (case hr => kernel_rfl); (case hd => rfl)) | fail)
      all_goals (first | (apply d_take 7; (case hi => rfl); (case hop => first | (apply PureOp.read; apply p_move <;> rfl)); (case hf => kernel_rfl); (case hr => kernel_rfl); (case hd => rfl)) | fail)
      all_goals (first | (apply d_take 8; (case hi => rfl); (case hop => first | (apply PureOp.read; apply p_indexAddrS; (case hx => rfl); (case hi => rfl); (case h0 => omega); (case h => omega); (case hA => first | assumption | fail))); (case hf => kernel_rfl); (case hr => kernel_rfl); (case hd => rfl)) | fail)
      all_goals (first | (apply d_take 9; (case hi => rfl); (case hop => first | (apply PureOp.read; apply p_fieldAddr <;> rfl)); (case hf => kernel_rfl); (case hr => kernel_rfl); (case hd => rfl)) | fail)
      all_goals (first | (apply d_take 10; (case hi => rfl); (case hop => first | ((apply r_load1; rfl; exact Cell.frozen hI)) | fail); (case hf => kernel_rfl); (case hr => kernel_rfl); (case hd => rfl)) | fail)
      all_goals (first | (apply d_take 11; (case hi => rfl); (case hop => first | (apply PureOp.read; apply p_move <;> rfl)); (case hf => kernel_rfl); (case hr => kernel_rfl); (case hd => rfl)) | fail)
      all_goals (first | (apply d_take 12; (case hi => rfl); (case hop => first | (apply PureOp.read; apply p_move <;> rfl)); (case hf => kernel_rfl); (case hr => kernel_rfl); (case hd => rfl)) | fail)
      all_goals (first | (apply d_take 13; (case hi => rfl); (case hop => first | (apply PureOp.read; apply p_indexAddrS; (case hx => rfl); (case hi => rfl); (case h0 => omega); (case h => omega); (case hA => first | assumption | fail))); (case hf => kernel_rfl); (case hr => kernel_rfl); (case hd => rfl)) | fail)
      all_goals (first | (apply d_take 14; (case hi => rfl); (case hop => first | (apply PureOp.read; apply p_fieldAddr <;> rfl)); (case hf => kernel_rfl); (case hr => kernel_rfl); (case hd => rfl)) | fail)
      all_goals (first | (apply d_take 15; (case hi => rfl); (case hop => first | ((apply r_load1; rfl; exact Cell.frozen hN)) | fail); (case hf => kernel_rfl); (case hr => kernel_rfl); (case hd => rfl)) | fail)
      all_goals (first | (apply d_take 17; (case hi => rfl); (case hop => first | (apply PureOp.read; apply p_move <;> rfl)); (case hf => kernel_rfl); (case hr => kernel_rfl); (case hd => rfl)) | fail)
      all_goals (first | ((apply d_call 16 (hs := qv) (μ1 := [(t, _), (m, _)]) (μ2 := (bb, .cells [.int .i64 2, .int .i64 1].toArray 26 (0, 0)) :: ν); (case hi => rfl); (case hr => kernel_rfl);  (case ha => rfl); (case hp => exact List.Perm.refl _); (case hd => rfl); (case hν' => intro e he; cases he); rintro _ G1 _ - ⟨hG1, rfl, oM2, hM2, rfl⟩; subst G1)) | fail)
      all_goals (first | (apply d_take 18; (case hi => rfl); (case hop => first | (apply PureOp.read; apply p_neBs <;> rfl) | fail); (case hf => kernel_rfl); (case hr => kernel_rfl); (case hd => rfl)) | fail)
      all_goals (apply d_done; (case hr => kernel_rfl))
      repeat' (first | apply v_seq | apply v_region | apply v_nil | apply v_skip | apply v_blk | (apply v_pure; (case hop => first | (apply p_move <;> rfl) | (apply p_assign <;> rfl) | (apply p_add; (case hx => rfl); (case hy => rfl); (case h => omega)) | (apply p_indexAddrS; (case hx => rfl); (case hi => rfl); (case h0 => omega); (case h => omega); (case hA => first | assumption | fail)) | fail); (case hd => rfl)) | (apply v_condF; (case hc => rfl)) | (apply v_cond; (case hc => rfl); all_goals (intro h; (try simp only [reduceCtorEq, dec_true, dec_false, decide_eq_true_eq, decide_eq_false_iff_not, Bool.not_eq_true', Bool.not_eq_false', Option.isNone_iff_eq_none, beq_true, beq_false, beq_iff_eq, beq_eq_false_iff_ne, ne_eq, decide_eq_decide, Bool.not_eq_true, Bool.not_eq_false, Decidable.not_not] at h); first | skip)) | (apply v_read; (case hop => (apply r_loadN; rfl; exact CellsAt.frozen hC; rfl)); (case hd => rfl)) | (apply v_append (hg := hg) (m' := 1) (us := l[k].cells) (hp := List.perm_append_comm (l₁ := [(b, Obj.cells l[k].cells.toArray 36 (0, 0)), (t, tO 2 1 m low), (m, oM2), (bb, Obj.cells [Value.int .i64 2, Value.int .i64 1].toArray 26 (0, 0))]) (l₂ := ν)) (hsrc := Src.own (e := 36) (List.Mem.head _) rfl); (case hzs => rfl); (case hsz => omega); (case hs => rfl); (case hx => rfl); (case hb => omega); (case hb' => simp only [maxLen]; omega); (case hd => rfl); (case h1 => rfl); intro v3 n3 hg3) | (apply v_buildSlice; (case hz => rfl); (case hi => rfl); (case hv => (simp only [List.map_cons, List.map_nil]; repeat (first | with_reducible exact evs_nil | (apply evs_cons; (case h1 => rfl))))); (case hp => (first | (apply pk_cons; (case hc => rfl); (case hs => rfl); (case h => (first | with_reducible exact pk_nil | fail)); (case he => (first | ((repeat (first | with_reducible exact ap_nil | apply ap_cons)); done) | fail))) | fail)); (case hb => rfl); (case hd => rfl); intro b) | fail)
      · have hct : countsP 2 1 got low l[k] := of_decide_eq_true (hcb.trans (by assumption))
        rw [if_pos hct] at hT1
        have hg4 : Grow 36 5 v3 (got ++ [l[k]]).length (voteW (got ++ [l[k]])) n3 := by
          rw [voteW_add, List.length_append]
          exact hg3
        refine v_perm (List.perm_append_comm (l₁ := n3) (l₂ := [(b, _), (t, _), (m, _), (bb, _)])) ?_
        refine v_drop (ν := (t, _) :: (m, _) :: (bb, _) :: n3) (List.sublist_cons_self _ _) ?_
        refine v_again rfl ⟨rfl, k + 1, got ++ [l[k]], low, _, oM2, v3, n3, by omega, by rw [List.length_append, List.length_singleton]; omega, rfl, hT1, hM2, by omega, hg4, ?_, rfl⟩ (by simp [headI]; omega)
        intro y hy
        rcases List.mem_append.1 hy with hy | hy
        · exact hgw y hy
        · rw [List.mem_singleton] at hy
          subst hy
          exact hwk
      · have hct : ¬ countsP 2 1 got low l[k] := of_decide_eq_false (hcb.trans (by assumption))
        rw [if_neg hct] at hT1
        exact v_again rfl ⟨rfl, k + 1, got, low, _, oM2, gv, ν, by omega, by omega, rfl, hT1, hM2, by omega, hg, hgw, rfl⟩ (by simp [headI]; omega)
  refine v_frz ν (PickA.cons _ (PickA.cons _ (PickA.cons _ PickA.last))) ?_
  intro G2 hle2 hG2
  have hgs : Sl G2 5 VtR gv got := voteW_sl hg hG2 hgw
  have hm2 := hm.mono hle2
  clear hel1 hcp hl hm qw hG2 hg
  have hne := nodes_eq hT x
  have wfR : ∀ y ∈ nodesR got low x, (Lit.int .i64 y).wf = true := hne ▸ nodesB_wf
  have hkl : k = l.length := by omega
  subst hkl
  repeat' (first | apply v_seq | apply v_region | apply v_nil | (apply v_exit; (case hp => rfl)) | (apply v_pure; (case hop => first | (apply p_move <;> rfl) | (apply p_lt <;> rfl) | (apply p_lenSlice <;> rfl) | fail); (case hd => rfl)) | (apply v_cond; (case hc => rfl); all_goals (intro h; (try simp only [reduceCtorEq, dec_true, dec_false, decide_eq_true_eq, decide_eq_false_iff_not, Bool.not_eq_true', Bool.not_eq_false', Option.isNone_iff_eq_none, beq_true, beq_false, beq_iff_eq, beq_eq_false_iff_ne, ne_eq, decide_eq_decide, Bool.not_eq_true, Bool.not_eq_false, Decidable.not_not] at h); first | (exfalso; omega) | skip)) | fail)
  refine v_call (μ1 := []) (μ2 := [(t, _), (m, _), (bb, _)]) rfl (refNodes_s low x hgs) (List.Perm.refl _) rfl ?_
  rintro w3 G3 ν3 - ⟨hG3, hg3⟩
  subst G3
  refine v_frz ν3 (PickA.here _) ?_
  intro G4 hle4 hG4
  have hw3 := hg3.ints hG4 wfR
  repeat' (first | apply v_seq | apply v_region | apply v_nil | (apply v_pure; (case hop => first | (apply p_move <;> rfl) | (apply p_assign <;> rfl) | fail); (case hd => rfl)) | (apply v_callJ (hs := drop0_s _); (case ha => rfl); (case hd => rfl)) | fail)
  have q5 := nodes_s (G := G4) (r := 2) (n := 1) (low := low) (t := t) (m := m) x hM hT.small
  rw [hne] at q5
  refine v_call (μ1 := [(t, _), (m, _)]) (μ2 := [(bb, _)]) rfl q5 (List.Perm.refl _) rfl ?_
  rintro v5 G5 _ - ⟨hG5, ν5, hg5, rfl⟩
  subst G5
  rw [List.append_assoc]
  refine v_frz ν5 (PickA.here _) ?_
  intro G6 hle6 hG6
  have hw5 := hg5.ints hG6 wfR
  have q6 := ints_s hw5 (hw3.mono hle6)
  rw [intsB_self] at q6
  repeat' (first | (apply v_take; (case hg => rfl)) | (apply v_pure; (case hop => first | (apply p_move <;> rfl) | fail); (case hd => rfl)) | (apply v_callJ (hs := q6); (case ha => rfl); (case hd => rfl)) | fail)
  have q7 := open_s (G := G6) (r := 2) (n := 1) (low := low) (t := t) (m := m) hM (by omega)
  refine v_call (μ1 := [(t, _), (m, _)]) (μ2 := [(bb, _)]) rfl q7 (List.Perm.refl _) rfl ?_
  rintro v7 G7 _ - ⟨hG7, ν7, hg7, rfl⟩
  subst G7
  rw [List.append_assoc]
  refine v_frz ν7 (PickA.here _) ?_
  intro G8 hle8 hG8
  have hle48 := GH.le_trans hle4 (GH.le_trans hle6 hle8)
  repeat' (first | (apply v_take; (case hg => rfl)) | (apply v_pure; (case hop => first | (apply p_move <;> rfl) | fail); (case hd => rfl)) | fail)
  refine v_call (μ1 := []) (μ2 := [(t, _), (m, _), (bb, _)]) rfl (refOpen_s low (hgs.mono hle48) (by omega)) (List.Perm.refl _) rfl ?_
  rintro v9 G9 _ - ⟨hle9, rfl, L, hL, hv9⟩
  rw [open_eq hT hL] at hg7
  have hv7 := hg7.ints hG8 (by
    obtain ⟨_, _, rfl, _, _, _, _, hw⟩ := hv9.openInt
    exact hw)
  have q9 := ints_s (hv7.mono hle9) hv9
  rw [intsB_self] at q9
  have hm9 := hm2.mono (GH.le_trans hle48 hle9)
  have hw9 := (hw3.mono (GH.le_trans hle6 hle8)).mono hle9
  have q10 := won_s (G := G9) (r := 2) (n := 1) (low := low) (t := t) (m := m) x hM hT.small hm9 (by omega)
  have q11 := refMaj_s hm9 hw9 (by omega)
  rw [hne] at q10
  generalize majB mem (nodesR got low x) = mb at *
  have qw := awake34_s (G := G9)
  repeat' (first | (apply v_take; (case hg => rfl)) | (apply v_pure; (case hop => first | (apply p_move <;> rfl) | (apply p_eqs <;> rfl) | (apply p_eqBs <;> rfl) | (apply p_pickT <;> rfl) | (apply p_not <;> rfl) | (apply p_lenSlice <;> rfl) | fail); (case hd => rfl)) | (apply v_callJ (hs := q9); (case ha => rfl); (case hd => rfl)) | (apply v_callK (hs := q10) (μ2 := [(bb, _)]); (case ha => rfl); (case hp => exact List.Perm.refl _); (case hd => rfl)) | (apply v_callJ (hs := q11); (case ha => rfl); (case hd => rfl)) | (apply v_callJ (hs := vote0_s _ _ _ _); (case ha => rfl); (case hd => rfl)) | (apply v_callJ (hs := nodes0_s _); (case ha => rfl); (case hd => rfl)) | (apply v_callJ (hs := won0_s _ _); (case ha => rfl); (case hd => rfl)) | (apply v_callJ (hs := open0_s); (case ha => rfl); (case hd => rfl)) | (apply v_read; (case hop => (apply r_loadNo; (case hx => rfl); (case h => repeat (first | exact List.Mem.head _ | apply List.Mem.tail)); (case hd => rfl); (case hn => rfl))); (case hd => rfl)) | fail)
  refine v_call (μ1 := []) (μ2 := [(t, _), (m, _), (bb, _)]) rfl qw (List.Perm.refl _) rfl ?_
  rintro _ G10 μ10 - rfl
  repeat' (first | apply v_nil | (apply v_pure; (case hop => first | (apply p_assign <;> rfl) | (apply p_pickT <;> rfl) | fail); (case hd => rfl)) | fail)
  exact v_ret [] (outsA1 rfl rfl) (List.nil_sublist _) rfl
end Go.Proofs.Ytgflmkhfachlcaa
/-
  TallyVotes: votes counted one by one, and what is dropped: who voted, what is open and whether it is won, as the reference says. Condition: none.
-/
set_option linter.unusedSimpArgs false
set_option linter.unusedVariables false
namespace Go.Proofs.Ytgflmkhfachlcaa
open Go.Vx Go.ChangeShapes Go.WideShapes Go.ChangeAt Go.RowKit
theorem tallyVotes_own : ownKnob Try.prog.godebug = none := by kernel_rfl
theorem tallyVotes_laidOut : laidOutB Try.prog = true := by kernel_rfl
theorem tallyVotes_spec : LawSpec Rows.tallyVotesSpec 3 := ⟨rfl, fun H ds h => by match ds, h with | [d0, d1, d2], _ => rfl⟩
set_option maxRecDepth 100000 in
theorem tallyVotes_lifted (os : Os) (started : os.Started) (H : Type) (enc : TypeId × Value → H) :
    ReturnsInHanded {} Try.checked os 4 .any (Rows.tallyVotesSpec.pre6 enc Try.prog Try.f4 Rows.tallyVotesRow.domain false) (Rows.tallyVotesSpec.post enc Try.prog Try.f4 false true false false) := by
  refine returnsInHanded_of_change (C := Try.checked) tallyVotes_own started (by kernel_rfl) Try.func4
    (ChangeSpec.witness6 (enc := enc) (C := Try.checked) false ⟨#[], #[.slice none 0 0, .int .i64 0, .slice none 0 0], []⟩ 8 (by kernel_rfl) (by kernel_rfl) (by kernel_rfl) (by kernel_rfl)) ?_
  intro W base args ds gs before hval0 hW hcnd _
  have hval : ∀ (j : Nat) t v, Try.f4.params[j]? = some t → args[j]? = some v → Value.okWide Try.prog W .any base t v := hval0
  refine law_post tallyVotes_laidOut Try.underlying4 rfl tallyVotes_spec rfl (by kernel_rfl) hW ?_
  obtain ⟨p, q, hA0, hV, rfl, hfz, hnd⟩ := hW
  have hA : DataW.TrodAll enc Try.prog W 0 (fun _ => true) true Try.f4.params.toList args.toList ds p := hA0
  rw [Try.params4] at hA hval
  obtain ⟨v0, vs0, d0, ds0, p0, q0, hargs, rfl, rfl, h0, r0⟩ := trodAll_cons hA
  obtain ⟨v1, vs1, d1, ds1, p1, q1, rfl, rfl, rfl, h1, r1⟩ := trodAll_cons r0
  obtain ⟨v2, vs2, d2, ds2, p2, q2, rfl, rfl, rfl, h2, r2⟩ := trodAll_cons r1
  obtain ⟨rfl, rfl, rfl⟩ := trodAll_nil r2
  obtain rfl : args = #[v0, v1, v2] := by cases args; simp_all
  have g0 := arg_t34 (hval 0 34 v0 rfl rfl) h0
  have g1 := arg_t3 (hval 1 3 v1 rfl rfl) h1
  have g2 := arg_t22 (hval 2 22 v2 rfl rfl) h2
  exact tallyVotes_law g0 g1 g2
theorem tallyVotes_over : Rows.tallyVotesRow.holds Try.pinned (OpenSpec.ofChange Rows.tallyVotesSpec) :=
  OpenClaim.holds_of_wide 4 Try.f4 rfl rfl rfl rfl rfl rfl rfl ⟨rfl, rfl, rfl, rfl, rfl⟩ rfl rfl rfl rfl rfl (by kernel_rfl) Try.func4 (by kernel_rfl)
    (of_decide_eq_true (by kernel_rfl)) (by unfold Func.isWrapper; first | (rw [if_pos (by decide +kernel)]; kernel_rfl) | (rw [if_neg (by decide +kernel)]; exact ⟨rfl, rfl⟩))
    (fun os started H enc _ => tallyVotes_lifted os started H enc)
theorem tallyVotes_holds : Rows.TallyVotesSaid := tallyVotes_over

end Go.Proofs.Ytgflmkhfachlcaa
