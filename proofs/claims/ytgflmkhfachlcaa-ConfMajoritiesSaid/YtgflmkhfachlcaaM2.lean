/-
  The library's iterators at numbers: slices.Values; slices.AppendSeq, slices.Collect over whatever iterator.
-/
import Derived.Test.YtgflmkhfachlcaaM1
import Derived.Shelf.Slices.SearchI
import Derived.Shelf.Slices.Delete
import Derived.Shelf.Spec.SlicesInsert
import Derived.Shelf.Spec.SlicesInsertGrow
set_option linter.unusedSimpArgs false
set_option linter.unusedVariables false
namespace Go.Proofs.Ytgflmkhfachlcaa
open Go.Vx Go.ChangeShapes Go.WideShapes Go.ChangeAt Go.RowKit
theorem values_s {G : GH} {A : Option Addr} {n c : Nat} : Con Try.prog 53 #[.slice A n c] G []
    (fun r G' μ' => ∃ b, r = .func (.func 66) #[] #[.pointer (some ⟨b, 0, none⟩)] ∧ G' = G ∧ μ' = [(b, .cells [.slice A n c].toArray 22 (0, 0))]) := by
  (refine v_enter Try.func53 rfl Try.ntmps53 rfl ?_; intro B _)
  repeat' (first | apply v_seq | apply v_region | apply v_nil | (apply v_pure; (case hop => first | (apply p_assign <;> rfl) | (apply p_makeFunc <;> rfl)); (case hd => rfl)) | (apply v_box; (case hx => rfl); (case hz => rfl); (case hd => rfl); intro b) | fail)
  refine v_ret [(b, _)] (outsA1 rfl rfl) (by repeat (first | exact List.Sublist.refl _ | fail)) ?_
  exact ⟨b, rfl, rfl, rfl⟩
theorem vals_seq {G : GH} {l : List Int} {A : Option Addr} {n c b : Nat} (hs : Sl G 1 (IntR .i64) (.slice A n c) l) (hl : l.length ≤ 1048576) : SeqCon Try.prog 66 [.pointer (some ⟨b, 0, none⟩)] keyI (fun xs => xs = l) l.length G [(b, .cells [.slice A n c].toArray 22 (0, 0))] := by
  intro lp J G1 ν hle hJ0 hY
  obtain ⟨A', c', e0, hlc, hcm, hsome, hel, -⟩ := (hs.mono hle).openInt
  cases e0
  simp only [maxLen] at hcm
  (refine v_enter Try.func66 rfl Try.ntmps66 rfl ?_; intro B _)
  repeat' (first | apply v_seq | apply v_region | apply v_nil | apply v_block | (apply v_pure; (case hop => first | (apply p_move <;> rfl) | (apply p_lenSlice <;> rfl) | fail); (case hd => rfl)) | (apply v_read; (case hop => first | (apply r_load1; rfl; (apply Cell.own; (case h => (repeat (first | exact List.Mem.head _ | fail))); rfl)) | fail); (case hd => rfl)) | fail)
  refine v_loopI (ι := Nat) [7, 5, 6, 0] (fun k vs G' μ' => GH.le G1 G' ∧ ∃ ν', k ≤ l.length ∧ vs = [Value.int .i64 (k : Nat), .slice A l.length c, .int .i64 (l.length : Nat), .func (.yield lp) #[] #[]] ∧ J (l.take k) G' ν' ∧ μ' = (b, .cells [.slice A l.length c].toArray 22 (0, 0)) :: ν') (fun k => l.length - k) rfl 0 ⟨GH.le_refl _, ν, by omega, rfl, hJ0, rfl⟩ ?_
  rintro k vs G' _ ⟨hle', ν', hk, rfl, hJ, rfl⟩
  by_cases hlt : k < l.length
  · have e1 : ((k : Nat) : Int).toNat = k := by omega
    have hc := GH.cell_le hle' (hel k hlt)
    have hA := hsome (by omega)
    have hy := hY (l.take k) l[k] G' ν' hle' hJ (by rw [List.length_take]; omega)
    rw [← List.take_succ_eq_append_getElem hlt] at hy
    generalize l[k] = x at *
    repeat' (first | apply v_seq | apply v_region | apply v_nil | apply v_skip | apply v_block | apply v_blk | (apply v_pure; (case hop => first | (apply p_move <;> rfl) | (apply p_lt <;> rfl) | (apply p_assign <;> rfl) | (apply p_not <;> rfl) | (apply p_add; (case hx => rfl); (case hy => rfl); (case h => omega)) | (apply p_indexAddrS; (case hx => rfl); (case hi => rfl); (case h0 => omega); (case h => omega); (case hA => first | assumption | fail)) | fail); (case hd => rfl)) | (apply v_condF; (case hc => rfl)) | (apply v_cond; (case hc => rfl); all_goals (intro h; (try simp only [reduceCtorEq, dec_true, dec_false, decide_eq_true_eq, decide_eq_false_iff_not, Bool.not_eq_true', Bool.not_eq_false', Option.isNone_iff_eq_none, beq_true, beq_false, beq_iff_eq, beq_eq_false_iff_ne, ne_eq, decide_eq_decide, Bool.not_eq_true, Bool.not_eq_false, Decidable.not_not] at h); first | (exfalso; omega) | skip)) | (apply v_read; (case hop => first | (apply r_load1; rfl; exact Cell.frozen hc)); (case hd => rfl)) | (apply v_yield (hs := hy); (case hx => rfl); (case ha => rfl); (case hp => exact (List.perm_append_comm (l₁ := [(b, Obj.cells [Value.slice A l.length c].toArray 22 (0, 0))]) (l₂ := ν'))); (case hd => rfl); rintro _ G2 ν2 hle2 ⟨rfl, hJ2⟩) | fail)
    refine v_perm List.perm_append_comm ?_
    refine v_againI (k + 1) rfl ⟨GH.le_trans hle' hle2, ν2, by omega, rfl, hJ2, rfl⟩ (by omega)
  · repeat' (first | apply v_seq | apply v_region | apply v_nil | (apply v_exit; (case hp => rfl)) | (apply v_pure; (case hop => first | (apply p_lt <;> rfl) | fail); (case hd => rfl)) | (apply v_cond; (case hc => rfl); all_goals (intro h; (try simp only [reduceCtorEq, dec_true, dec_false, decide_eq_true_eq, decide_eq_false_iff_not, Bool.not_eq_true', Bool.not_eq_false', Option.isNone_iff_eq_none, beq_true, beq_false, beq_iff_eq, beq_eq_false_iff_ne, ne_eq, decide_eq_decide, Bool.not_eq_true, Bool.not_eq_false, Decidable.not_not] at h); first | (exfalso; omega) | skip)) | fail)
    refine v_end _ (outsA0 rfl) (List.Sublist.refl _) ?_
    rw [List.take_of_length_le (by omega)] at hJ
    exact ⟨l, ν', rfl, hJ, rfl⟩
theorem appendSeq_s {G : GH} {gf : FuncId} [Callable Try.prog gf] {lb : List Value} {S : List Int → Prop} {N : Nat} {μ1 : OH} (hN : N ≤ 1048576) (hseq : SeqCon Try.prog gf lb keyI S N G μ1) :
    Con Try.prog 68 #[.slice none 0 0, .func (.func gf) #[] lb.toArray] G μ1 (fun r G' μ' => G' = G ∧ ∃ xs ν, S xs ∧ Grow 3 1 r xs.length (xs.map (Value.int .i64 ·)) ν ∧ μ' = ν ++ μ1) := by
  (refine v_enter Try.func68 rfl Try.ntmps68 rfl ?_; intro B _)
  repeat' (first | apply v_seq | apply v_region | apply v_nil | apply v_block | (apply v_pure; (case hop => first | (apply p_move <;> rfl) | (apply p_assign <;> rfl)); (case hd => rfl)) | (apply v_box; (case hx => rfl); (case hz => rfl); (case hd => rfl); intro b) | fail)
  refine v_rangeFunc (enc := keyI) (N := N) (S := S) (μ1 := μ1) (μ2 := [(b, .cells [.slice none 0 0].toArray 22 (0, 0))]) (σ' := fun x => _) (fun pre G' ν => G' = G ∧ ∃ v ν1, Grow 3 1 v pre.length (pre.map (Value.int .i64 ·)) ν1 ∧ ν = ν1 ++ [(b, .cells [v].toArray 22 (0, 0))]) rfl hseq ?_ rfl (fun x => Assigns.region (.cons (p_assign rfl) rfl (.nil _))) rfl ⟨rfl, _, [], Grow.nil _ _, rfl⟩ ?_ ?_
  · exact (List.perm_append_comm (l₁ := [(b, Obj.cells [Value.slice none 0 0].toArray 22 (0, 0))]) (l₂ := μ1))
  · rintro l B' _ pre x G2 _ hle ⟨rfl, v, ν1, hg, rfl⟩ hlen
    have hpl : pre.length ≤ 1048576 := by omega
    repeat' (first | apply v_region | apply v_nil | apply v_block | apply v_blk | (apply v_pure; (case hop => first | (apply p_move <;> rfl) | fail); (case hd => rfl)) | (apply v_append (hg := hg) (m' := 1) (us := [keyI x]) (hp := PickA.perm (by repeat (first | exact PickA.here _ | apply PickA.cons | fail))) (hsrc := Src.own (e := 3) (by repeat (first | exact List.Mem.head _ | fail)) rfl); (case hzs => rfl); (case hsz => omega); (case hs => rfl); (case hx => rfl); (case hb => omega); (case hb' => simp only [maxLen]; omega); (case hd => rfl); (case h1 => rfl); intro v3 n3 hg3; obtain ⟨A3, c3, rfl, -, -⟩ := hg3.shape) | (apply v_read; (case hop => first | (apply r_load1; rfl; (apply Cell.own; (case h => (repeat (first | exact List.Mem.head _ | apply List.mem_append_right))); rfl)) | fail); (case hd => rfl)) | (apply v_buildSlice; (case hz => rfl); (case hi => rfl); (case hv => (simp only [List.map_cons, List.map_nil]; repeat (first | with_reducible exact evs_nil | (apply evs_cons; (case h1 => rfl))))); (case hp => (first | (apply pk_cons; (case hc => rfl); (case hs => rfl); (case h => (first | with_reducible exact pk_nil | fail)); (case he => (first | ((repeat (first | with_reducible exact ap_nil | apply ap_cons)); done) | fail))) | fail)); (case hb => rfl); (case hd => rfl); intro b) | (apply v_store; (case hp => rfl); (case hx => rfl); (case hc => rfl); (case hsz => rfl); (case h1 => rfl); (case hb => (repeat (first | exact List.Mem.head _ | apply List.Mem.tail | apply List.mem_append_right))); (case hfit => first | exact Nat.le_of_ble_eq_true rfl | fail); (case hov => (first | ((repeat (first | with_reducible exact ov_nil | apply ov_cons | fail)); done) | fail)); (case hu => repeat (first | exact Upd.here _ _ | apply Upd.there | apply Upd.app))) | fail)
    refine v_endR (n3 ++ [_]) (List.Sublist.append_left (by repeat (first | exact List.Sublist.refl _ | apply List.Sublist.cons | fail)) _) ⟨rfl, rfl, _, n3, by simpa using hg3, rfl⟩
  · rintro B' D _ xs G2 _ hle hS ⟨rfl, v, ν1, hg, rfl⟩
    repeat' (first | apply v_seq | apply v_region | apply v_nil | apply v_blk | (apply v_pure; (case hop => first | (apply p_assign <;> rfl)); (case hd => rfl)) | (apply v_read; (case hop => first | (apply r_load1; rfl; (apply Cell.own; (case h => (repeat (first | exact List.Mem.head _ | apply List.Mem.tail | apply List.mem_append_right))); rfl)) | fail); (case hd => rfl)) | fail)
    refine v_retD (Ds := [D]) (μ1 := (ν1 ++ μ1) ++ [(b, .cells [v].toArray 22 (0, 0))]) (ν1 ++ μ1) (fun ds a ha w _ => outs1 rfl rfl ds a ha) ?_ (List.sublist_append_left _ _) ⟨rfl, xs, ν1, hS, hg, rfl⟩
    exact (show List.Perm (μ1 ++ (ν1 ++ [(b, Obj.cells [v].toArray 22 (0, 0))])) (ν1 ++ μ1 ++ [(b, Obj.cells [v].toArray 22 (0, 0))]) from (by apply perm_of_count; intro p; simp only [List.countP_append, List.countP_cons, List.countP_nil, Nat.zero_add, Nat.add_zero]; try ac_rfl)).cons _
theorem collect_s {G : GH} {gf : FuncId} [Callable Try.prog gf] {lb : List Value} {S : List Int → Prop} {N : Nat} {μ1 : OH} (hN : N ≤ 1048576) (hseq : SeqCon Try.prog gf lb keyI S N G μ1) :
    Con Try.prog 55 #[.func (.func gf) #[] lb.toArray] G μ1 (fun r G' μ' => G' = G ∧ ∃ xs ν, S xs ∧ Grow 3 1 r xs.length (xs.map (Value.int .i64 ·)) ν ∧ μ' = ν ++ μ1) := by
  have q := appendSeq_s hN hseq
  (refine v_enter Try.func55 rfl Try.ntmps55 rfl ?_; intro B _)
  repeat' (first | apply v_seq | apply v_region | apply v_nil | (apply v_pure; (case hop => first | (apply p_move <;> rfl) | (apply p_assign <;> rfl)); (case hd => rfl)) | fail)
  refine v_call (μ1 := μ1) (μ2 := []) rfl q (by simp) rfl ?_
  rintro r _ _ - ⟨rfl, xs, ν, hS, hg, rfl⟩
  repeat' (first | apply v_nil | (apply v_pure; (case hop => first | (apply p_assign <;> rfl)); (case hd => rfl)) | fail)
  refine v_ret (ν ++ μ1) (outsA1 rfl rfl) (by simp) ⟨rfl, xs, ν, hS, hg, rfl⟩
end Go.Proofs.Ytgflmkhfachlcaa
/-
  conf (layer 11), the first part: what its readers, and the reference's, answer.
-/
set_option linter.unusedSimpArgs false
set_option linter.unusedVariables false
namespace Go.Proofs.Ytgflmkhfachlcaa
open Go.Vx Go.ChangeShapes Go.WideShapes Go.ChangeAt Go.RowKit
/-- A conf: from where on, and its members; in cells. -/
abbrev Co := Int × List Int
def CoR (G : GH) (x : Co) (cs : List Value) : Prop := ∃ mv, cs = [.int .i64 x.1, mv] ∧ (Lit.int .i64 x.1).wf = true ∧ Sl G 1 (IntR .i64) mv x.2
theorem CoR.le {G G' : GH} (h : GH.le G G') {x : Co} {cs : List Value} (hc : CoR G x cs) : CoR G' x cs := let ⟨mv, h1, h2, h3⟩ := hc; ⟨mv, h1, h2, h3.mono h⟩
abbrev Cos (G : GH) (v : Value) (l : List Co) : Prop := Sl G 2 (CoR G) v l
theorem Cos.le {G G' : GH} (h : GH.le G G') {v : Value} {l : List Co} (hc : Cos G v l) : Cos G' v l := Sl.le hc h fun _ _ => CoR.le h
theorem coOpen {G : GH} {v : Value} {l : List Co} (h : Cos G v l) : ∃ A c, ∃ (mA : Nat → Option Addr) (mc : Nat → Nat), v = .slice A l.length c ∧ l.length ≤ c ∧ c ≤ maxLen ∧ (0 < l.length → A.isSome = true) ∧
    (∀ i (h : i < l.length), CellsG G ((adr A).add (i * 2)) [.int .i64 l[i].1, .slice (mA i) l[i].2.length (mc i)]) ∧ (∀ i (h : i < l.length), GH.cell? G (((adr A).add (i * 2)).add 0) = some (.int .i64 l[i].1)) ∧ (∀ i (h : i < l.length), GH.cell? G (((adr A).add (i * 2)).add 1) = some (.slice (mA i) l[i].2.length (mc i))) ∧
    (∀ i (h : i < l.length), Sl G 1 (IntR .i64) (.slice (mA i) l[i].2.length (mc i)) l[i].2) ∧ (∀ i (h : i < l.length), (Lit.int .i64 l[i].1).wf = true) := by
  obtain ⟨A, c, rfl, h1, h2, h3, h4⟩ := h.open
  have key : ∀ i, ∃ m : Option Addr × Nat, ∀ (h : i < l.length), CellsG G ((adr A).add (i * 2)) [.int .i64 l[i].1, .slice m.1 l[i].2.length m.2] ∧ Sl G 1 (IntR .i64) (.slice m.1 l[i].2.length m.2) l[i].2 ∧ (Lit.int .i64 l[i].1).wf = true := fun i => by
    by_cases hi : i < l.length
    · obtain ⟨cs, _, ⟨mv, rfl, h6, h7⟩, h5⟩ := h4 i _ (List.getElem?_eq_getElem hi)
      obtain ⟨A', c', rfl, _⟩ := h7.openInt
      exact ⟨(A', c'), fun _ => ⟨h5, h7, h6⟩⟩
    · exact ⟨(none, 0), fun h => absurd h hi⟩
  have hk := fun i => Classical.choose_spec (key i)
  exact ⟨A, c, fun i => (Classical.choose (key i)).1, fun i => (Classical.choose (key i)).2, rfl, h1, h2, h3, fun i hi => (hk i hi).1, fun i hi => (hk i hi).1.cell (j := 0) rfl, fun i hi => (hk i hi).1.cell (j := 1) rfl, fun i hi => (hk i hi).2.1, fun i hi => (hk i hi).2.2⟩
/-! ### Plain readers -/
def inB (l : List Int) (n : Int) : Bool := decide (n ∈ l)
theorem in_s {G : GH} {l : List Int} {sv : Value} (n : Int) (hs : Sl G 1 (IntR .i64) sv l) : Con Try.prog 14 #[sv, .int .i64 n] G [] (Just (.bool (inB l n)) G) := by
  obtain ⟨A, c, rfl, hlc, hcm, hsome, hel, _⟩ := hs.openInt
  simp only [maxLen] at hcm
  (refine v_enter Try.func14 rfl Try.ntmps14 rfl ?_; intro B _)
  repeat' (first | apply v_seq | apply v_region | apply v_nil | apply v_block | (apply v_pure; (case hop => first | (apply p_assign <;> rfl) | fail); (case hd => rfl)) | fail)
  refine v_loop [5, 0, 1] (fun us G' μ' => G' = G ∧ μ' = [] ∧ ∃ k, k ≤ l.length ∧ us = [Value.int .i64 (k : Nat), .slice A l.length c, .int .i64 n] ∧ ∀ i (h : i < l.length), i < k → l[i] ≠ n) (fun us => l.length - (headI us).toNat) rfl ⟨rfl, rfl, 0, by omega, rfl, by omega⟩ ?_
  rintro us G' μ' ⟨rfl, rfl, k, hk, rfl, hno⟩
  repeat' (first | apply v_seq | apply v_region | apply v_nil | apply v_skip | apply v_block | apply v_blk | (apply v_exit; (case hp => rfl)) | (apply v_pure; (case hop => first | (apply p_move <;> rfl) | (apply p_eq <;> rfl) | (apply p_lt <;> rfl) | (apply p_assign <;> rfl) | (apply p_lenSlice <;> rfl) | (apply p_add; (case hx => rfl); (case hy => rfl); (case h => omega)) | (apply p_indexAddrS; (case hx => rfl); (case hi => rfl); (case h0 => omega); (case h => omega); (case hA => first | (apply_assumption; omega))) | fail); (case hd => rfl)) | (apply v_cond; (case hc => rfl); all_goals (intro h; (try simp only [reduceCtorEq, dec_true, dec_false, decide_eq_true_eq, decide_eq_false_iff_not, Bool.not_eq_true', Bool.not_eq_false', Option.isNone_iff_eq_none, beq_true, beq_false, beq_iff_eq, beq_eq_false_iff_ne, ne_eq, decide_eq_decide, Bool.not_eq_true, Bool.not_eq_false, Decidable.not_not] at h); first | skip)) | (apply v_read; (case hop => (apply r_load1; rfl; exact Cell.frozen (hel _ (by omega)))); (case hd => rfl)) | fail)
  · refine v_ret [] (outsA1 rfl rfl) (by repeat (first | exact List.Sublist.refl _ | fail)) ?_
    refine ⟨?_, rfl, rfl⟩
    rw [inB, decide_eq_true (by rename_i h; rw [← h]; exact List.getElem_mem _)]
  · refine v_again rfl ⟨rfl, rfl, k + 1, by omega, rfl, fun i h hi => ?_⟩ (by simp [headI]; omega)
    by_cases hik : i = k
    · subst hik; assumption
    · exact hno i h (by omega)
  · refine v_ret [] (outsA1 rfl rfl) (by repeat (first | exact List.Sublist.refl _ | fail)) ?_
    refine ⟨?_, rfl, rfl⟩
    rw [inB, decide_eq_false]
    intro hm
    obtain ⟨i, hi, he⟩ := List.getElem_of_mem hm
    exact hno i hi (by omega) he
theorem index_s {G : GH} {l : List Int} {sv : Value} (n : Int) (hs : Sl G 1 (IntR .i64) sv l) : Con Try.prog 67 #[sv, .int .i64 n] G [] (fun r G' μ' => G' = G ∧ μ' = [] ∧ ∃ i : Int, r = .int .i64 i ∧ decide (0 ≤ i) = inB l n) := by
  obtain ⟨A, c, rfl, hlc, hcm, hsome, hel, _⟩ := hs.openInt
  simp only [maxLen] at hcm
  (refine v_enter Try.func67 rfl Try.ntmps67 rfl ?_; intro B _)
  repeat' (first | apply v_seq | apply v_region | apply v_nil | apply v_block | (apply v_pure; (case hop => first | (apply p_move <;> rfl) | (apply p_assign <;> rfl) | (apply p_lenSlice <;> rfl) | fail); (case hd => rfl)) | fail)
  refine v_loop [8, 7, 0, 1] (fun us G' μ' => G' = G ∧ μ' = [] ∧ ∃ k, k ≤ l.length ∧ us = [Value.int .i64 (k : Nat), .int .i64 l.length, .slice A l.length c, .int .i64 n] ∧ ∀ i (h : i < l.length), i < k → l[i] ≠ n) (fun us => l.length - (headI us).toNat) rfl ⟨rfl, rfl, 0, by omega, rfl, by omega⟩ ?_
  rintro us G' μ' ⟨rfl, rfl, k, hk, rfl, hno⟩
  repeat' (first | apply v_seq | apply v_region | apply v_nil | apply v_skip | apply v_block | apply v_blk | (apply v_exit; (case hp => rfl)) | (apply v_pure; (case hop => first | (apply p_move <;> rfl) | (apply p_eq <;> rfl) | (apply p_lt <;> rfl) | (apply p_assign <;> rfl) | (apply p_add; (case hx => rfl); (case hy => rfl); (case h => omega)) | (apply p_indexAddrS; (case hx => rfl); (case hi => rfl); (case h0 => omega); (case h => omega); (case hA => first | (apply_assumption; omega))) | fail); (case hd => rfl)) | (apply v_cond; (case hc => rfl); all_goals (intro h; (try simp only [reduceCtorEq, dec_true, dec_false, decide_eq_true_eq, decide_eq_false_iff_not, Bool.not_eq_true', Bool.not_eq_false', Option.isNone_iff_eq_none, beq_true, beq_false, beq_iff_eq, beq_eq_false_iff_ne, ne_eq, decide_eq_decide, Bool.not_eq_true, Bool.not_eq_false, Decidable.not_not] at h); first | skip)) | (apply v_read; (case hop => (apply r_load1; rfl; exact Cell.frozen (hel _ (by omega)))); (case hd => rfl)) | fail)
  · refine v_ret [] (outsA1 rfl rfl) (by repeat (first | exact List.Sublist.refl _ | fail)) ?_
    refine ⟨rfl, rfl, _, rfl, ?_⟩
    rw [inB, decide_eq_true (p := n ∈ l) (by rename_i h; rw [h]; exact List.getElem_mem _), decide_eq_true (by omega)]
  · refine v_again rfl ⟨rfl, rfl, k + 1, by omega, rfl, fun i h hi => ?_⟩ (by simp [headI]; omega)
    by_cases hik : i = k
    · subst hik; exact fun e => ‹¬ n = _› e.symm
    · exact hno i h (by omega)
  · refine v_ret [] (outsA1 rfl rfl) (by repeat (first | exact List.Sublist.refl _ | fail)) ?_
    refine ⟨rfl, rfl, _, rfl, ?_⟩
    rw [inB, decide_eq_false (p := n ∈ l), decide_eq_false (by omega)]
    intro hm
    obtain ⟨i, hi, he⟩ := List.getElem_of_mem hm
    exact hno i hi (by omega) he
theorem contains_s {G : GH} {l : List Int} {sv : Value} (n : Int) (hs : Sl G 1 (IntR .i64) sv l) : Con Try.prog 54 #[sv, .int .i64 n] G [] (Just (.bool (inB l n)) G) := by
  (refine v_enter Try.func54 rfl Try.ntmps54 rfl ?_; intro B _)
  repeat' (first | apply v_seq | apply v_region | apply v_nil | (apply v_pure; (case hop => first | (apply p_move <;> rfl) | (apply p_assign <;> rfl)); (case hd => rfl)) | fail)
  refine v_call (μ1 := []) (μ2 := []) rfl (index_s n hs) (List.Perm.refl _) rfl ?_
  rintro r G' μ1 - ⟨rfl, rfl, i, rfl, hi⟩
  repeat' (first | apply v_nil | (apply v_pure; (case hop => first | (apply p_ge <;> rfl) | (apply p_assign <;> rfl)); (case hd => rfl)) | fail)
  refine v_ret [] (outsA1 rfl rfl) (by repeat (first | exact List.Sublist.refl _ | fail)) ?_
  exact ⟨by rw [dec_eq, hi], rfl, rfl⟩
/-! ### What may be -/
def MemOK (m : List Int) : Prop := 0 < m.length ∧ ∀ k (h : k < m.length), 1 ≤ m[k] ∧ m[k] ≤ 9 ∧ (0 < k → m[k - 1] < m[k])
def ConfOK (l : List Co) : Prop := (∃ h : 0 < l.length, l[0].1 = 1) ∧ ∀ i (h : i < l.length), MemOK l[i].2 ∧ l[i].1 ≤ 4294967296 ∧ (0 < i → l[i - 1].1 < l[i].1)
noncomputable instance (m : List Int) : Decidable (MemOK m) := Classical.propDecidable _
noncomputable instance (l : List Co) : Decidable (ConfOK l) := Classical.propDecidable _
theorem members_s {G : GH} {l : List Int} {sv : Value} (hs : Sl G 1 (IntR .i64) sv l) : Con Try.prog 73 #[sv] G [] (Just (.bool (decide (MemOK l))) G) := by
  obtain ⟨A, c, rfl, hlc, hcm, hsome, hel, _⟩ := hs.openInt
  simp only [maxLen] at hcm
  (refine v_enter Try.func73 rfl Try.ntmps73 rfl ?_; intro B _)
  repeat' (first | apply v_seq | apply v_region | apply v_nil | apply v_block | (apply v_pure; (case hop => first | (apply p_move <;> rfl) | (apply p_assign <;> rfl) | (apply p_lenSlice <;> rfl) | fail); (case hd => rfl)) | fail)
  refine v_loop [7, 6, 5, 0] (fun us G' μ' => G' = G ∧ μ' = [] ∧ ∃ k, k ≤ l.length ∧ us = [Value.int .i64 (k : Nat), .int .i64 l.length, .slice A l.length c, .slice A l.length c] ∧ ∀ i (h : i < l.length), i < k → 1 ≤ l[i] ∧ l[i] ≤ 9 ∧ (0 < i → l[i - 1] < l[i])) (fun us => l.length - (headI us).toNat) rfl ⟨rfl, rfl, 0, by omega, rfl, by omega⟩ ?_
  rintro us G' μ' ⟨rfl, rfl, k, hk, rfl, hno⟩
  repeat' (first | apply v_seq | apply v_region | apply v_nil | apply v_skip | apply v_block | apply v_blk | (apply v_exit; (case hp => rfl)) | (apply v_take; (case hg => rfl)) | (apply v_pass; (case hg => rfl); (case hn => rfl); (case hd => rfl)) | (apply v_passN; (case hg => rfl); (case hn => rfl); (case hd => rfl)) | (apply v_pure; (case hop => first | (apply p_move <;> rfl) | (apply p_lt <;> rfl) | (apply p_gt <;> rfl) | (apply p_le <;> rfl) | (apply p_assign <;> rfl) | (apply p_pickT <;> rfl) | (apply p_pickF <;> rfl) | (apply p_lenSlice <;> rfl) | (apply p_add; (case hx => rfl); (case hy => rfl); (case h => omega)) | (apply p_sub; (case hx => rfl); (case hy => rfl); (case h => omega)) | (apply p_indexAddrS; (case hx => rfl); (case hi => rfl); (case h0 => omega); (case h => omega); (case hA => first | (apply_assumption; omega))) | fail); (case hd => rfl)) | (apply v_condT; (case hc => rfl)) | (apply v_condF; (case hc => rfl)) | (apply v_cond; (case hc => rfl); all_goals (intro h; (try simp only [reduceCtorEq, dec_true, dec_false, decide_eq_true_eq, decide_eq_false_iff_not, Bool.not_eq_true', Bool.not_eq_false', Option.isNone_iff_eq_none, beq_true, beq_false, beq_iff_eq, beq_eq_false_iff_ne, ne_eq, decide_eq_decide, Bool.not_eq_true, Bool.not_eq_false, Decidable.not_not] at h); first | skip)) | (apply v_guardB; (case h1 => rfl); (case h2 => rfl); all_goals (intro h; (try simp only [reduceCtorEq, dec_true, dec_false, decide_eq_true_eq, decide_eq_false_iff_not, Bool.not_eq_true', Bool.not_eq_false', Option.isNone_iff_eq_none, beq_true, beq_false, beq_iff_eq, beq_eq_false_iff_ne, ne_eq, decide_eq_decide, Bool.not_eq_true, Bool.not_eq_false, Decidable.not_not] at h); first | skip)) | (apply v_read; (case hop => (apply r_load1; rfl; exact Cell.frozen (hel _ (by omega)))); (case hd => rfl)) | fail)
  all_goals have e1 : ((k : Nat) : Int).toNat = k := by omega
  all_goals have e2 : (((k : Nat) : Int) - 1).toNat = k - 1 := by omega
  all_goals try
    (refine v_ret [] (outsA1 rfl rfl) (by repeat (first | exact List.Sublist.refl _ | fail)) ?_
     refine ⟨?_, rfl, rfl⟩
     rw [decide_eq_false]
     rintro ⟨_, hm⟩
     have := hm k (by omega)
     simp only [e1, e2] at *
     omega)
  all_goals try
    (refine v_again rfl ⟨rfl, rfl, k + 1, by omega, rfl, fun i h hi => ?_⟩ (by simp [headI]; omega)
     by_cases hik : i = k
     · subst hik; simp only [e1, e2] at *; omega
     · exact hno i h (by omega))
  · refine v_ret [] (outsA1 rfl rfl) (by repeat (first | exact List.Sublist.refl _ | fail)) ?_
    refine ⟨?_, rfl, rfl⟩
    congr 1
    rw [dec_eq, decide_eq_decide]
    exact ⟨fun h => ⟨by omega, fun i h' => hno i h' (by omega)⟩, fun h => by have := h.1; omega⟩
theorem check_s {G : GH} {l : List Co} {sv : Value} (hs : Cos G sv l) : Con Try.prog 63 #[sv] G [] (Just (.int .i64 (if ConfOK l then 0 else 3)) G) := by
  obtain ⟨A, c, mA, mc, rfl, hlc, hcm, hsome, hcp, hc0, hc1, hmv, hwf⟩ := coOpen hs
  simp only [maxLen] at hcm
  (refine v_enter Try.func63 rfl Try.ntmps63 rfl ?_; intro B _)
  repeat' (first | apply v_seq | apply v_region | apply v_nil | apply v_skip | apply v_block | (apply v_take; (case hg => rfl)) | (apply v_pass; (case hg => rfl); (case hn => rfl); (case hd => rfl)) | (apply v_pure; (case hop => first | (apply p_move <;> rfl) | (apply p_eq <;> rfl) | (apply p_ne <;> rfl) | (apply p_assign <;> rfl) | (apply p_pickT <;> rfl) | (apply p_pickF <;> rfl) | (apply p_lenSlice <;> rfl) | (apply p_fieldAddr <;> rfl) | (apply p_indexAddrS; (case hx => rfl); (case hi => rfl); (case h0 => omega); (case h => omega); (case hA => first | (apply_assumption; omega))) | fail); (case hd => rfl)) | (apply v_condT; (case hc => rfl)) | (apply v_cond; (case hc => rfl); all_goals (intro h; (try simp only [reduceCtorEq, dec_true, dec_false, decide_eq_true_eq, decide_eq_false_iff_not, Bool.not_eq_true', Bool.not_eq_false', Option.isNone_iff_eq_none, beq_true, beq_false, beq_iff_eq, beq_eq_false_iff_ne, ne_eq, decide_eq_decide, Bool.not_eq_true, Bool.not_eq_false, Decidable.not_not] at h); first | skip)) | (apply v_guardB; (case h1 => rfl); (case h2 => rfl); all_goals (intro h; (try simp only [reduceCtorEq, dec_true, dec_false, decide_eq_true_eq, decide_eq_false_iff_not, Bool.not_eq_true', Bool.not_eq_false', Option.isNone_iff_eq_none, beq_true, beq_false, beq_iff_eq, beq_eq_false_iff_ne, ne_eq, decide_eq_decide, Bool.not_eq_true, Bool.not_eq_false, Decidable.not_not] at h); first | skip)) | (apply v_read; (case hop => first | (apply r_load1; rfl; exact Cell.frozen (hc0 _ (by omega))) | fail); (case hd => rfl)) | fail)
  · refine v_ret [] (outsA1 rfl rfl) (by repeat (first | exact List.Sublist.refl _ | fail)) ?_
    refine ⟨?_, rfl, rfl⟩
    rw [if_neg]
    rintro ⟨⟨h0, _⟩, _⟩
    omega
  · refine v_ret [] (outsA1 rfl rfl) (by repeat (first | exact List.Sublist.refl _ | fail)) ?_
    refine ⟨?_, rfl, rfl⟩
    rw [if_neg]
    rintro ⟨⟨_, h0⟩, _⟩
    contradiction
  refine v_loop [17, 16, 15, 0] (fun us G' μ' => G' = G ∧ μ' = [] ∧ ∃ k, k ≤ l.length ∧ us = [Value.int .i64 (k : Nat), .int .i64 l.length, .slice A l.length c, .slice A l.length c] ∧ ∀ i (h : i < l.length), i < k → MemOK l[i].2 ∧ l[i].1 ≤ 4294967296 ∧ (0 < i → l[i - 1].1 < l[i].1)) (fun us => l.length - (headI us).toNat) rfl ⟨rfl, rfl, 0, by omega, rfl, by omega⟩ ?_
  rintro us G' μ' ⟨rfl, rfl, k, hk, rfl, hno⟩
  have e1 : ((k : Nat) : Int).toNat = k := by omega
  have e2 : (((k : Nat) : Int) - 1).toNat = k - 1 := by omega
  repeat' (first | apply v_seq | apply v_region | apply v_nil | apply v_skip | apply v_block | (apply v_exit; (case hp => rfl)) | (apply v_pure; (case hop => first | (apply p_move <;> rfl) | (apply p_lt <;> rfl) | (apply p_assign <;> rfl) | (apply p_indexAddrS; (case hx => rfl); (case hi => rfl); (case h0 => omega); (case h => omega); (case hA => first | (apply_assumption; omega))) | fail); (case hd => rfl)) | (apply v_cond; (case hc => rfl); all_goals (intro h; (try simp only [reduceCtorEq, dec_true, dec_false, decide_eq_true_eq, decide_eq_false_iff_not, Bool.not_eq_true', Bool.not_eq_false', Option.isNone_iff_eq_none, beq_true, beq_false, beq_iff_eq, beq_eq_false_iff_ne, ne_eq, decide_eq_decide, Bool.not_eq_true, Bool.not_eq_false, Decidable.not_not] at h); first | skip)) | (apply v_read; (case hop => first | (apply r_loadN; rfl; exact CellsAt.frozen (hcp _ (by omega)); rfl)); (case hd => rfl)) | (apply v_alloc; (case hz => rfl); (case hd => rfl); intro b) | (apply v_store; (case hp => rfl); (case hx => rfl); (case hc => rfl); (case hsz => rfl); (case h1 => rfl); (case hb => (repeat (first | exact List.Mem.head _ | fail))); (case hfit => first | exact Nat.le_of_ble_eq_true rfl | fail); (case hov => (first | ((repeat (first | with_reducible exact ov_nil | apply ov_cons | fail)); done) | fail)); (case hu => repeat (first | exact Upd.here _ _ | fail))) | fail)
  · have hlt : k < l.length := by omega
    refine d_start _ (by kernel_rfl) (by kernel_rfl) (by kernel_rfl) (fun _ he => he) ?_
    all_goals (first | (apply d_take 0; (case hi => rfl); (case hop => first | (apply PureOp.read; apply p_fieldAddrB <;> rfl) | fail); (case hf => kernel_rfl); (case hr => kernel_rfl); (case hd => rfl)) | fail)
    all_goals (first | (apply d_take 1; (case hi => rfl); (case hop => first | (apply r_load1; rfl; (apply Cell.own; (case h => (repeat (first | exact List.Mem.head _ | fail))); rfl)) | fail); (case hf => kernel_rfl); (case hr => kernel_rfl); (case hd => rfl)) | fail)
    all_goals (first | (apply d_callJ 2 (hs := (members_s (hmv _ hlt))); (case hi => rfl); (case hr => kernel_rfl); (case ha => rfl); (case hd => rfl)) | fail)
    all_goals (first | (apply d_take 3; (case hi => rfl); (case hop => first | (apply PureOp.read; apply p_not <;> rfl)); (case hf => kernel_rfl); (case hr => kernel_rfl); (case hd => rfl)) | fail)
    all_goals (first | (apply d_take 4; (case hi => rfl); (case hop => first | (apply PureOp.read; apply p_move <;> rfl)); (case hf => kernel_rfl); (case hr => kernel_rfl); (case hd => rfl)) | fail)
    all_goals (try (apply d_guardB 5; (case hi => rfl); (case hgd => rfl); (case h1 => rfl); (case h2 => first | rfl); all_goals (intro h; (try simp only [reduceCtorEq, dec_true, dec_false, decide_eq_true_eq, decide_eq_false_iff_not, Bool.not_eq_true', Bool.not_eq_false', Option.isNone_iff_eq_none, beq_true, beq_false, beq_iff_eq, beq_eq_false_iff_ne, ne_eq, decide_eq_decide, Bool.not_eq_true, Bool.not_eq_false, Decidable.not_not] at h); first | skip)))
    all_goals (first | (apply d_pass 5; (case hi => rfl); (case hg => rfl); (case hn => rfl); (case hf => kernel_rfl); (case hr => kernel_rfl); (case hd => rfl)) | (apply d_takeG 5; (case hi => rfl); (case hg => rfl); (case hop => first | (apply PureOp.read; apply p_fieldAddrB <;> rfl) | fail); (case hf => kernel_rfl); (case hr => kernel_rfl); (case hd => rfl)) | fail)
    all_goals (try (apply d_guardB 6; (case hi => rfl); (case hgd => rfl); (case h1 => rfl); (case h2 => first | rfl); all_goals (intro h; (try simp only [reduceCtorEq, dec_true, dec_false, decide_eq_true_eq, decide_eq_false_iff_not, Bool.not_eq_true', Bool.not_eq_false', Option.isNone_iff_eq_none, beq_true, beq_false, beq_iff_eq, beq_eq_false_iff_ne, ne_eq, decide_eq_decide, Bool.not_eq_true, Bool.not_eq_false, Decidable.not_not] at h); first | done | skip)))
    all_goals (first | (apply d_pass 6; (case hi => rfl); (case hg => rfl); (case hn => rfl); (case hf => kernel_rfl); (case hr => kernel_rfl); (case hd => rfl)) | (apply d_takeG 6; (case hi => rfl); (case hg => rfl); (case hop => first | (apply r_load1; rfl; (apply Cell.own; (case h => (repeat (first | exact List.Mem.head _ | fail))); rfl)) | fail); (case hf => kernel_rfl); (case hr => kernel_rfl); (case hd => rfl)) | fail)
    all_goals (try (apply d_guardB 7; (case hi => rfl); (case hgd => rfl); (case h1 => rfl); (case h2 => first | rfl); all_goals (intro h; (try simp only [reduceCtorEq, dec_true, dec_false, decide_eq_true_eq, decide_eq_false_iff_not, Bool.not_eq_true', Bool.not_eq_false', Option.isNone_iff_eq_none, beq_true, beq_false, beq_iff_eq, beq_eq_false_iff_ne, ne_eq, decide_eq_decide, Bool.not_eq_true, Bool.not_eq_false, Decidable.not_not] at h); first | done | skip)))
    all_goals (first | (apply d_pass 7; (case hi => rfl); (case hg => rfl); (case hn => rfl); (case hf => kernel_rfl); (case hr => kernel_rfl); (case hd => rfl)) | (apply d_takeG 7; (case hi => rfl); (case hg => rfl); (case hop => first | (apply PureOp.read; apply p_gt <;> rfl)); (case hf => kernel_rfl); (case hr => kernel_rfl); (case hd => rfl)) | fail)
    all_goals (first | (apply d_take 8; (case hi => rfl); (case hop => first | (apply PureOp.read; apply p_pickT <;> rfl) | (apply PureOp.read; apply p_pickF <;> rfl) | fail); (case hf => kernel_rfl); (case hr => kernel_rfl); (case hd => rfl)) | fail)
    all_goals (first | (apply d_take 9; (case hi => rfl); (case hop => first | (apply PureOp.read; apply p_move <;> rfl)); (case hf => kernel_rfl); (case hr => kernel_rfl); (case hd => rfl)) | fail)
    all_goals (try (apply d_guardB 10; (case hi => rfl); (case hgd => rfl); (case h1 => rfl); (case h2 => first | rfl); all_goals (intro h; (try simp only [reduceCtorEq, dec_true, dec_false, decide_eq_true_eq, decide_eq_false_iff_not, Bool.not_eq_true', Bool.not_eq_false', Option.isNone_iff_eq_none, beq_true, beq_false, beq_iff_eq, beq_eq_false_iff_ne, ne_eq, decide_eq_decide, Bool.not_eq_true, Bool.not_eq_false, Decidable.not_not] at h); first | done | skip)))
    all_goals (first | (apply d_pass 10; (case hi => rfl); (case hg => rfl); (case hn => rfl); (case hf => kernel_rfl); (case hr => kernel_rfl); (case hd => rfl)) | (apply d_takeG 10; (case hi => rfl); (case hg => rfl); (case hop => first | (apply PureOp.read; apply p_move <;> rfl)); (case hf => kernel_rfl); (case hr => kernel_rfl); (case hd => rfl)) | fail)
    all_goals (try (apply d_guardB 11; (case hi => rfl); (case hgd => rfl); (case h1 => rfl); (case h2 => first | rfl); all_goals (intro h; (try simp only [reduceCtorEq, dec_true, dec_false, decide_eq_true_eq, decide_eq_false_iff_not, Bool.not_eq_true', Bool.not_eq_false', Option.isNone_iff_eq_none, beq_true, beq_false, beq_iff_eq, beq_eq_false_iff_ne, ne_eq, decide_eq_decide, Bool.not_eq_true, Bool.not_eq_false, Decidable.not_not] at h); first | done | skip)))
    all_goals (first | (apply d_pass 11; (case hi => rfl); (case hg => rfl); (case hn => rfl); (case hf => kernel_rfl); (case hr => kernel_rfl); (case hd => rfl)) | (apply d_takeG 11; (case hi => rfl); (case hg => rfl); (case hop => first | (apply PureOp.read; apply p_gt <;> rfl)); (case hf => kernel_rfl); (case hr => kernel_rfl); (case hd => rfl)) | fail)
    all_goals (try (apply d_guardB 12; (case hi => rfl); (case hgd => rfl); (case h1 => rfl); (case h2 => first | rfl); all_goals (intro h; (try simp only [reduceCtorEq, dec_true, dec_false, decide_eq_true_eq, decide_eq_false_iff_not, Bool.not_eq_true', Bool.not_eq_false', Option.isNone_iff_eq_none, beq_true, beq_false, beq_iff_eq, beq_eq_false_iff_ne, ne_eq, decide_eq_decide, Bool.not_eq_true, Bool.not_eq_false, Decidable.not_not] at h); first | done | skip)))
    all_goals (first | (apply d_pass 12; (case hi => rfl); (case hg => rfl); (case hn => rfl); (case hf => kernel_rfl); (case hr => kernel_rfl); (case hd => rfl)) | (apply d_takeG 12; (case hi => rfl); (case hg => rfl); (case hop => first | (apply PureOp.read; apply p_move <;> rfl)); (case hf => kernel_rfl); (case hr => kernel_rfl); (case hd => rfl)) | fail)
    all_goals (try (apply d_guardB 13; (case hi => rfl); (case hgd => rfl); (case h1 => rfl); (case h2 => first | rfl); all_goals (intro h; (try simp only [reduceCtorEq, dec_true, dec_false, decide_eq_true_eq, decide_eq_false_iff_not, Bool.not_eq_true', Bool.not_eq_false', Option.isNone_iff_eq_none, beq_true, beq_false, beq_iff_eq, beq_eq_false_iff_ne, ne_eq, decide_eq_decide, Bool.not_eq_true, Bool.not_eq_false, Decidable.not_not] at h); first | skip)))
    all_goals (first | (apply d_pass 13; (case hi => rfl); (case hg => rfl); (case hn => rfl); (case hf => kernel_rfl); (case hr => kernel_rfl); (case hd => rfl)) | (apply d_passN 13; (case hi => rfl); (case hg => rfl); (case hn => rfl); (case hf => kernel_rfl); (case hr => kernel_rfl); (case hd => rfl)) | (apply d_takeG 13; (case hi => rfl); (case hg => rfl); (case hop => first | (apply PureOp.read; apply p_fieldAddrB <;> rfl) | fail); (case hf => kernel_rfl); (case hr => kernel_rfl); (case hd => rfl)) | fail)
    all_goals (try (apply d_guardB 14; (case hi => rfl); (case hgd => rfl); (case h1 => rfl); (case h2 => first | rfl); all_goals (intro h; (try simp only [reduceCtorEq, dec_true, dec_false, decide_eq_true_eq, decide_eq_false_iff_not, Bool.not_eq_true', Bool.not_eq_false', Option.isNone_iff_eq_none, beq_true, beq_false, beq_iff_eq, beq_eq_false_iff_ne, ne_eq, decide_eq_decide, Bool.not_eq_true, Bool.not_eq_false, Decidable.not_not] at h); first | done | skip)))
    all_goals (first | (apply d_pass 14; (case hi => rfl); (case hg => rfl); (case hn => rfl); (case hf => kernel_rfl); (case hr => kernel_rfl); (case hd => rfl)) | (apply d_passN 14; (case hi => rfl); (case hg => rfl); (case hn => rfl); (case hf => kernel_rfl); (case hr => kernel_rfl); (case hd => rfl)) | (apply d_takeG 14; (case hi => rfl); (case hg => rfl); (case hop => first | (apply r_load1; rfl; (apply Cell.own; (case h => (repeat (first | exact List.Mem.head _ | fail))); rfl)) | fail); (case hf => kernel_rfl); (case hr => kernel_rfl); (case hd => rfl)) | fail)
    all_goals (try (apply d_guardB 15; (case hi => rfl); (case hgd => rfl); (case h1 => rfl); (case h2 => first | rfl); all_goals (intro h; (try simp only [reduceCtorEq, dec_true, dec_false, decide_eq_true_eq, decide_eq_false_iff_not, Bool.not_eq_true', Bool.not_eq_false', Option.isNone_iff_eq_none, beq_true, beq_false, beq_iff_eq, beq_eq_false_iff_ne, ne_eq, decide_eq_decide, Bool.not_eq_true, Bool.not_eq_false, Decidable.not_not] at h); first | done | skip)))
    all_goals (first | (apply d_pass 15; (case hi => rfl); (case hg => rfl); (case hn => rfl); (case hf => kernel_rfl); (case hr => kernel_rfl); (case hd => rfl)) | (apply d_passN 15; (case hi => rfl); (case hg => rfl); (case hn => rfl); (case hf => kernel_rfl); (case hr => kernel_rfl); (case hd => rfl)) | (apply d_takeG 15; (case hi => rfl); (case hg => rfl); (case hop => first | (apply PureOp.read; apply p_move <;> rfl)); (case hf => kernel_rfl); (case hr => kernel_rfl); (case hd => rfl)) | fail)
    all_goals (try (apply d_guardB 16; (case hi => rfl); (case hgd => rfl); (case h1 => rfl); (case h2 => first | rfl); all_goals (intro h; (try simp only [reduceCtorEq, dec_true, dec_false, decide_eq_true_eq, decide_eq_false_iff_not, Bool.not_eq_true', Bool.not_eq_false', Option.isNone_iff_eq_none, beq_true, beq_false, beq_iff_eq, beq_eq_false_iff_ne, ne_eq, decide_eq_decide, Bool.not_eq_true, Bool.not_eq_false, Decidable.not_not] at h); first | done | skip)))
    all_goals (first | (apply d_pass 16; (case hi => rfl); (case hg => rfl); (case hn => rfl); (case hf => kernel_rfl); (case hr => kernel_rfl); (case hd => rfl)) | (apply d_passN 16; (case hi => rfl); (case hg => rfl); (case hn => rfl); (case hf => kernel_rfl); (case hr => kernel_rfl); (case hd => rfl)) | (apply d_takeG 16; (case hi => rfl); (case hg => rfl); (case hop => first | (apply PureOp.read; apply p_move <;> rfl)); (case hf => kernel_rfl); (case hr => kernel_rfl); (case hd => rfl)) | fail)
    all_goals (try (apply d_guardB 17; (case hi => rfl); (case hgd => rfl); (case h1 => rfl); (case h2 => first | rfl); all_goals (intro h; (try simp only [reduceCtorEq, dec_true, dec_false, decide_eq_true_eq, decide_eq_false_iff_not, Bool.not_eq_true', Bool.not_eq_false', Option.isNone_iff_eq_none, beq_true, beq_false, beq_iff_eq, beq_eq_false_iff_ne, ne_eq, decide_eq_decide, Bool.not_eq_true, Bool.not_eq_false, Decidable.not_not] at h); first | done | skip)))
    all_goals (first | (apply d_pass 17; (case hi => rfl); (case hg => rfl); (case hn => rfl); (case hf => kernel_rfl); (case hr => kernel_rfl); (case hd => rfl)) | (apply d_passN 17; (case hi => rfl); (case hg => rfl); (case hn => rfl); (case hf => kernel_rfl); (case hr => kernel_rfl); (case hd => rfl)) | (apply d_takeG 17; (case hi => rfl); (case hg => rfl); (case hop => first | (apply PureOp.read; apply p_sub; (case hx => rfl); (case hy => rfl); (case h => omega))); (case hf => kernel_rfl); (case hr => kernel_rfl); (case hd => rfl)) | fail)
    all_goals (try (apply d_guardB 18; (case hi => rfl); (case hgd => rfl); (case h1 => rfl); (case h2 => first | rfl); all_goals (intro h; (try simp only [reduceCtorEq, dec_true, dec_false, decide_eq_true_eq, decide_eq_false_iff_not, Bool.not_eq_true', Bool.not_eq_false', Option.isNone_iff_eq_none, beq_true, beq_false, beq_iff_eq, beq_eq_false_iff_ne, ne_eq, decide_eq_decide, Bool.not_eq_true, Bool.not_eq_false, Decidable.not_not] at h); first | done | skip)))
    all_goals (first | (apply d_pass 18; (case hi => rfl); (case hg => rfl); (case hn => rfl); (case hf => kernel_rfl); (case hr => kernel_rfl); (case hd => rfl)) | (apply d_passN 18; (case hi => rfl); (case hg => rfl); (case hn => rfl); (case hf => kernel_rfl); (case hr => kernel_rfl); (case hd => rfl)) | (apply d_takeG 18; (case hi => rfl); (case hg => rfl); (case hop => first | (apply PureOp.read; apply p_indexAddrS; (case hx => rfl); (case hi => rfl); (case h0 => omega); (case h => omega); (case hA => first | (apply_assumption; omega)))); (case hf => kernel_rfl); (case hr => kernel_rfl); (case hd => rfl)) | fail)
    all_goals (try (apply d_guardB 19; (case hi => rfl); (case hgd => rfl); (case h1 => rfl); (case h2 => first | rfl); all_goals (intro h; (try simp only [reduceCtorEq, dec_true, dec_false, decide_eq_true_eq, decide_eq_false_iff_not, Bool.not_eq_true', Bool.not_eq_false', Option.isNone_iff_eq_none, beq_true, beq_false, beq_iff_eq, beq_eq_false_iff_ne, ne_eq, decide_eq_decide, Bool.not_eq_true, Bool.not_eq_false, Decidable.not_not] at h); first | done | skip)))
    all_goals (first | (apply d_pass 19; (case hi => rfl); (case hg => rfl); (case hn => rfl); (case hf => kernel_rfl); (case hr => kernel_rfl); (case hd => rfl)) | (apply d_passN 19; (case hi => rfl); (case hg => rfl); (case hn => rfl); (case hf => kernel_rfl); (case hr => kernel_rfl); (case hd => rfl)) | (apply d_takeG 19; (case hi => rfl); (case hg => rfl); (case hop => first | (apply PureOp.read; apply p_fieldAddr <;> rfl)); (case hf => kernel_rfl); (case hr => kernel_rfl); (case hd => rfl)) | fail)
    all_goals (try (apply d_guardB 20; (case hi => rfl); (case hgd => rfl); (case h1 => rfl); (case h2 => first | rfl); all_goals (intro h; (try simp only [reduceCtorEq, dec_true, dec_false, decide_eq_true_eq, decide_eq_false_iff_not, Bool.not_eq_true', Bool.not_eq_false', Option.isNone_iff_eq_none, beq_true, beq_false, beq_iff_eq, beq_eq_false_iff_ne, ne_eq, decide_eq_decide, Bool.not_eq_true, Bool.not_eq_false, Decidable.not_not] at h); first | done | skip)))
    all_goals (first | (apply d_pass 20; (case hi => rfl); (case hg => rfl); (case hn => rfl); (case hf => kernel_rfl); (case hr => kernel_rfl); (case hd => rfl)) | (apply d_passN 20; (case hi => rfl); (case hg => rfl); (case hn => rfl); (case hf => kernel_rfl); (case hr => kernel_rfl); (case hd => rfl)) | (apply d_takeG 20; (case hi => rfl); (case hg => rfl); (case hop => first | ((apply r_load1; rfl; exact Cell.frozen (hc0 _ (by omega)))) | fail); (case hf => kernel_rfl); (case hr => kernel_rfl); (case hd => rfl)) | fail)
    all_goals (try (apply d_guardB 21; (case hi => rfl); (case hgd => rfl); (case h1 => rfl); (case h2 => first | rfl); all_goals (intro h; (try simp only [reduceCtorEq, dec_true, dec_false, decide_eq_true_eq, decide_eq_false_iff_not, Bool.not_eq_true', Bool.not_eq_false', Option.isNone_iff_eq_none, beq_true, beq_false, beq_iff_eq, beq_eq_false_iff_ne, ne_eq, decide_eq_decide, Bool.not_eq_true, Bool.not_eq_false, Decidable.not_not] at h); first | done | skip)))
    all_goals (first | (apply d_pass 21; (case hi => rfl); (case hg => rfl); (case hn => rfl); (case hf => kernel_rfl); (case hr => kernel_rfl); (case hd => rfl)) | (apply d_passN 21; (case hi => rfl); (case hg => rfl); (case hn => rfl); (case hf => kernel_rfl); (case hr => kernel_rfl); (case hd => rfl)) | (apply d_takeG 21; (case hi => rfl); (case hg => rfl); (case hop => first | (apply PureOp.read; apply p_le <;> rfl)); (case hf => kernel_rfl); (case hr => kernel_rfl); (case hd => rfl)) | fail)
    all_goals (try (apply d_guardB 22; (case hi => rfl); (case hgd => rfl); (case h1 => rfl); (case h2 => first | rfl); all_goals (intro h; (try simp only [reduceCtorEq, dec_true, dec_false, decide_eq_true_eq, decide_eq_false_iff_not, Bool.not_eq_true', Bool.not_eq_false', Option.isNone_iff_eq_none, beq_true, beq_false, beq_iff_eq, beq_eq_false_iff_ne, ne_eq, decide_eq_decide, Bool.not_eq_true, Bool.not_eq_false, Decidable.not_not] at h); first | done | skip)))
    all_goals (first | (apply d_pass 22; (case hi => rfl); (case hg => rfl); (case hn => rfl); (case hf => kernel_rfl); (case hr => kernel_rfl); (case hd => rfl)) | (apply d_takeG 22; (case hi => rfl); (case hg => rfl); (case hop => first | (apply PureOp.read; apply p_pickT <;> rfl) | (apply PureOp.read; apply p_pickF <;> rfl) | fail); (case hf => kernel_rfl); (case hr => kernel_rfl); (case hd => rfl)) | fail)
    all_goals (first | (apply d_take 23; (case hi => rfl); (case hop => first | (apply PureOp.read; apply p_pickT <;> rfl) | (apply PureOp.read; apply p_pickF <;> rfl) | fail); (case hf => kernel_rfl); (case hr => kernel_rfl); (case hd => rfl)) | fail)
    all_goals (apply d_done; (case hr => kernel_rfl))
    repeat' (first | apply v_seq | apply v_region | apply v_nil | apply v_skip | apply v_blk | (apply v_pure; (case hop => first | (apply p_move <;> rfl) | (apply p_assign <;> rfl) | (apply p_add; (case hx => rfl); (case hy => rfl); (case h => omega)) | fail); (case hd => rfl)) | (apply v_condT; (case hc => rfl)) | (apply v_condF; (case hc => rfl)) | (apply v_cond; (case hc => rfl); all_goals (intro h; (try simp only [reduceCtorEq, dec_true, dec_false, decide_eq_true_eq, decide_eq_false_iff_not, Bool.not_eq_true', Bool.not_eq_false', Option.isNone_iff_eq_none, beq_true, beq_false, beq_iff_eq, beq_eq_false_iff_ne, ne_eq, decide_eq_decide, Bool.not_eq_true, Bool.not_eq_false, Decidable.not_not] at h); first | skip)) | fail)
    all_goals try
      (refine v_ret [] (outsA1 rfl rfl) (by repeat (first | exact List.Sublist.refl _ | exact List.nil_sublist _ | fail)) ?_
       refine ⟨?_, rfl, rfl⟩
       rw [if_neg]
       rintro ⟨_, hm⟩
       obtain ⟨q1, q2, q3⟩ := hm k (by omega)
       simp only [e1, e2] at *
       first | contradiction | omega)
    all_goals
      (refine v_drop (ν := []) (by repeat (first | exact List.nil_sublist _ | fail)) ?_
       refine v_again rfl ⟨rfl, rfl, k + 1, by omega, rfl, fun i h hi => ?_⟩ (by simp [headI]; omega)
       by_cases hik : i = k
       · subst hik
         simp only [e1, e2] at *
         exact ⟨by assumption, by omega, by omega⟩
       · exact hno i h (by omega))
  · refine v_ret [] (outsA1 rfl rfl) (by repeat (first | exact List.Sublist.refl _ | fail)) ?_
    refine ⟨?_, rfl, rfl⟩
    rw [if_pos ⟨⟨by omega, by assumption⟩, fun i h => hno i h (by omega)⟩]
end Go.Proofs.Ytgflmkhfachlcaa
/-
  Majorities: slices.Sorted over whatever iterator; conf's Majority, and the reference's.
-/
set_option linter.unusedSimpArgs false
set_option linter.unusedVariables false
namespace Go.Proofs.Ytgflmkhfachlcaa
open Go.Vx Go.ChangeShapes Go.WideShapes Go.ChangeAt Go.RowKit
/-- A slice of ours that has grown, as one block or none. -/
theorem Grow.cases {e : TypeId} {v : Value} {m : Nat} {xs : List Value} {ν : OH} (h : Grow e 1 v m xs ν) : (v = .slice none 0 0 ∧ m = 0 ∧ xs = [] ∧ ν = []) ∨ ∃ b cap spare, v = .slice (some ⟨b, 0, none⟩) m cap ∧ m ≤ cap ∧ cap ≤ maxLen ∧ ν = [(b, .cells (xs ++ spare).toArray e (0, 0))] ∧ xs.length = m ∧ (xs ++ spare).length = cap := by
  obtain ⟨hx, ⟨rfl, rfl, rfl⟩ | ⟨b, cap, spare, rfl, rfl, h1, h2, h3⟩⟩ := h
  · left
    exact ⟨rfl, rfl, by simpa using hx, rfl⟩
  · right
    exact ⟨b, cap, spare, rfl, h1, h2, rfl, by simpa using hx, by simpa using h3⟩
theorem grow_of {e : TypeId} {b m cap : Nat} {xs spare : List Value} (h1 : xs.length = m) (h2 : m ≤ cap) (h3 : cap ≤ maxLen) (h4 : (xs ++ spare).length = cap) : Grow e 1 (.slice (some ⟨b, 0, none⟩) m cap) m xs [(b, .cells (xs ++ spare).toArray e (0, 0))] :=
  ⟨by omega, .inr ⟨b, cap, spare, rfl, rfl, h2, h3, by omega⟩⟩
theorem sorted_s {G : GH} {gf : FuncId} [Callable Try.prog gf] {lb : List Value} {S : List Int → Prop} {N : Nat} {μ1 : OH} (hN : N ≤ 1048576) (hS : ∀ xs, S xs → xs.length ≤ 1048576) (hseq : SeqCon Try.prog gf lb keyI S N G μ1) :
    Con Try.prog 39 #[.func (.func gf) #[] lb.toArray] G μ1 (fun r G' μ' => G' = G ∧ ∃ xs ν, S xs ∧ Grow 3 1 r xs.length ((sortL xs).map (Value.int .i64 ·)) ν ∧ μ' = ν ++ μ1) := by
  have q := collect_s hN hseq
  (refine v_enter Try.func39 rfl Try.ntmps39 rfl ?_; intro B _)
  repeat' (first | apply v_seq | apply v_region | apply v_nil | (apply v_pure; (case hop => first | (apply p_move <;> rfl) | (apply p_assign <;> rfl)); (case hd => rfl)) | fail)
  refine v_call (μ1 := μ1) (μ2 := []) rfl q (by simp) rfl ?_
  rintro r G1 _ - ⟨rfl, xs, ν, hSx, hg, rfl⟩
  have hlen := hS _ hSx
  obtain ⟨rfl, h0, h1, rfl⟩ | ⟨b, cap, spare, rfl, hc, hm, rfl, hxl, hcl⟩ := Grow.cases hg
  · have hx0 : xs = [] := List.eq_nil_of_length_eq_zero h0
    subst hx0
    repeat' (first | apply v_seq | apply v_region | apply v_nil | (apply v_pure; (case hop => first | (apply p_move <;> rfl) | (apply p_assign <;> rfl)); (case hd => rfl)) | (apply v_call (hs := sort0_s); (case ha => rfl); (case hp => first | exact List.Perm.refl _); (case hd => rfl); rintro _ _ _ _ ⟨rfl, rfl, rfl⟩) | fail)
    refine v_ret μ1 (outsA1 rfl rfl) (by simp) ⟨rfl, [], [], hSx, by simpa [sortL] using Grow.nil _ _, rfl⟩
  · have q2 := sort_s (G := G1) (zs := xs) (b := b) (cap := cap) (e := 3) (spare := spare) (by omega)
    repeat' (first | apply v_seq | apply v_region | apply v_nil | (apply v_pure; (case hop => first | (apply p_move <;> rfl) | (apply p_assign <;> rfl)); (case hd => rfl)) | fail)
    refine v_call (μ1 := [(b, _)]) (μ2 := μ1) rfl q2 (by simp) rfl ?_
    rintro _ G2 _ hle2 ⟨rfl, rfl, rfl⟩
    repeat' (first | apply v_seq | apply v_region | apply v_nil | (apply v_pure; (case hop => first | (apply p_move <;> rfl) | (apply p_assign <;> rfl)); (case hd => rfl)) | fail)
    refine v_ret ([(b, _)] ++ μ1) (outsA1 rfl rfl) (List.Sublist.refl _) ⟨rfl, xs, _, hSx, grow_of (by simp [(sortL_perm xs).length_eq]) hc hm (by simpa [(sortL_perm xs).length_eq] using hcl), rfl⟩
theorem inB_eq (l : List Int) (x : Int) : inB l x = l.contains x := by
  unfold inB
  rw [List.contains_eq_mem]
theorem maj_s {G : GH} {l of : List Int} {lv ov : Value} (hl : Sl G 1 (IntR .i64) lv l) (ho : Sl G 1 (IntR .i64) ov of) (hb : l.length ≤ 10000) : Con Try.prog 36 #[lv, ov] G [] (Just (.bool (majB l of)) G) := by
  obtain ⟨A, c, rfl, hlc, hcm, hsome, hel, hwl⟩ := id hl.openInt
  have q1 := values_s (G := G) (A := A) (n := l.length) (c := c)
  have q3 := fun G' (h : GH.le G G') x => contains_s x (ho.mono h)
  obtain ⟨A', c', rfl, hlc', hcm', hsome', hel', -⟩ := id ho.openInt
  (refine v_enter Try.func36 rfl Try.ntmps36 rfl ?_; intro B _)
  repeat' (first | apply v_seq | apply v_region | apply v_nil | (apply v_pure; (case hop => first | (apply p_move <;> rfl) | (apply p_assign <;> rfl) | fail); (case hd => rfl)) | fail)
  refine v_call (μ1 := []) (μ2 := []) rfl q1 (List.Perm.refl _) rfl ?_
  rintro _ _ _ - ⟨b, rfl, rfl, rfl⟩
  have q2 := sorted_s (by omega) (fun xs h => by rw [h]; omega) (vals_seq (b := b) hl (by omega))
  repeat' (fail)
  refine v_call (μ1 := [(b, _)]) (μ2 := []) rfl q2 (by simp) rfl ?_
  rintro r G1 _ - ⟨rfl, xs, ν, hxs, hg, rfl⟩
  subst hxs
  have hperm := sortL_perm xs
  have hlen := hperm.length_eq
  have hol := compact_len (sortL xs)
  obtain ⟨rfl, h0, h1, rfl⟩ | ⟨b2, cap, spare, rfl, hc, hm, rfl, hxl, hcl⟩ := Grow.cases hg
  · have hx0 : xs = [] := List.eq_nil_of_length_eq_zero h0
    subst hx0
    have hmaj : majB [] of = false := by simp [majB, once, sortL, Lib.compact, Lib.compactUpTo]
    rw [hmaj]
    repeat' (first | apply v_seq | apply v_region | apply v_nil | apply v_block | (apply v_pure; (case hop => first | (apply p_move <;> rfl) | (apply p_assign <;> rfl) | (apply p_lenSlice <;> rfl) | fail); (case hd => rfl)) | (apply v_callJ (hs := compact0_s); (case ha => rfl); (case hd => rfl)) | fail)
    refine v_loop [15, 14, 6, 5] (fun us G' μ' => G' = G1 ∧ us = [Value.int .i64 0, .int .i64 (0 : Nat), .int .i64 0, .slice none 0 0]) (fun us => 0) rfl ⟨rfl, rfl⟩ ?_
    rintro us G' μ' ⟨rfl, rfl⟩
    repeat' (first | apply v_seq | apply v_region | apply v_nil | (apply v_exit; (case hp => rfl)) | (apply v_pure; (case hop => first | (apply p_move <;> rfl) | (apply p_lt <;> rfl) | (apply p_gt <;> rfl) | (apply p_assign <;> rfl) | (apply p_lenSlice <;> rfl) | (apply p_mul; (case hx => rfl); (case hy => rfl); (case h => omega))); (case hd => rfl)) | (apply v_cond; (case hc => rfl); all_goals (intro h; (try simp only [reduceCtorEq, dec_true, dec_false, decide_eq_true_eq, decide_eq_false_iff_not, Bool.not_eq_true', Bool.not_eq_false', Option.isNone_iff_eq_none, beq_true, beq_false, beq_iff_eq, beq_eq_false_iff_ne, ne_eq, decide_eq_decide, Bool.not_eq_true, Bool.not_eq_false, Decidable.not_not] at h); first | (exfalso; omega) | skip)) | fail)
    refine v_ret [] (outsA1 rfl rfl) (List.nil_sublist _) ⟨?_, rfl, rfl⟩
    rw [dec_neg (by omega)]
  · have q4 := compact_s (G := G1) (zs := sortL xs) (b := b2) (cap := cap) (e := 3) (spare := spare) (by omega) (by omega)
    rw [hlen] at q4
    repeat' (fail)
    refine v_call (μ1 := [(b2, _)]) (μ2 := [(b, .cells [.slice A xs.length c].toArray 22 (0, 0))]) rfl q4 (by simp) rfl ?_
    rintro _ G2 _ hle2 ⟨rfl, rfl, sp, rfl⟩
    have e0 : Lib.compact (sortL xs) = once xs := rfl
    rw [e0] at hol ⊢
    have hon : (once xs).length ≤ 10000 := by omega
    have hmj : majB xs of = decide ((once xs).length < 2 * (once xs).countP (inB of ·)) := by
      unfold majB
      simp only [inB_eq]
    rw [hmj]
    generalize once xs = L at *
    repeat' (first | apply v_seq | apply v_region | apply v_nil | apply v_block | (apply v_pure; (case hop => first | (apply p_move <;> rfl) | (apply p_assign <;> rfl) | (apply p_lenSlice <;> rfl) | fail); (case hd => rfl)) | fail)
    refine v_loop [15, 14, 6, 5, 13, 1] (fun us G' μ' => G' = G2 ∧ μ' = [(b2, .cells (L.map (Value.int .i64 ·) ++ sp).toArray 3 (0, 0)), (b, .cells [.slice A xs.length c].toArray 22 (0, 0))] ∧ ∃ k, k ≤ L.length ∧ us = [Value.int .i64 (k : Nat), .int .i64 (L.length : Nat), .int .i64 ((L.take k).countP (inB of ·) : Nat), .slice (some ⟨b2, 0, none⟩) L.length cap, .slice (some ⟨b2, 0, none⟩) L.length cap, .slice A' of.length c']) (fun us => L.length - (headI us).toNat) rfl ⟨rfl, rfl, 0, by omega, rfl⟩ ?_
    rintro us G' μ' ⟨rfl, rfl, k, hk, rfl⟩
    by_cases hlt : k < L.length
    · have e1 : ((k : Nat) : Int).toNat = k := by omega
      have hval : (L.map (Value.int .i64 ·) ++ sp)[((k : Nat) : Int).toNat * 1]? = some (.int .i64 L[k]) := by
        rw [e1, Nat.mul_one, List.getElem?_append_left (by simpa using hlt), List.getElem?_map, List.getElem?_eq_getElem hlt]
        rfl
      have hcnt : (L.take (k + 1)).countP (inB of ·) = (L.take k).countP (inB of ·) + (if inB of L[k] = true then 1 else 0) := by
        rw [List.take_succ_eq_append_getElem hlt, List.countP_append, List.countP_singleton]
      have hcb : (L.take k).countP (inB of ·) ≤ k := Nat.le_trans List.countP_le_length (by rw [List.length_take]; omega)
      generalize L[k] = x at *
      generalize (L.take k).countP (inB of ·) = m at *
      have q := q3 _ (GH.le_refl _) x
      generalize inB of x = ib at *
      repeat' (first | apply v_seq | apply v_region | apply v_nil | apply v_skip | apply v_block | apply v_blk | (apply v_pure; (case hop => first | (apply p_move <;> rfl) | (apply p_lt <;> rfl) | (apply p_assign <;> rfl) | (apply p_add; (case hx => rfl); (case hy => rfl); (case h => omega)) | (apply p_indexAddr; (case hx => rfl); (case hi => rfl); (case h0 => omega); (case h => omega)) | fail); (case hd => rfl)) | (apply v_cond; (case hc => rfl); all_goals (intro h; (try simp only [reduceCtorEq, dec_true, dec_false, decide_eq_true_eq, decide_eq_false_iff_not, Bool.not_eq_true', Bool.not_eq_false', Option.isNone_iff_eq_none, beq_true, beq_false, beq_iff_eq, beq_eq_false_iff_ne, ne_eq, decide_eq_decide, Bool.not_eq_true, Bool.not_eq_false, Decidable.not_not] at h); first | (exfalso; omega) | skip)) | (apply v_read; (case hop => first | (apply r_load1; rfl; exact CellsAt.own (by repeat (first | exact List.Mem.head _ | fail)) _ _ hval)); (case hd => rfl)) | (apply v_callJ (hs := q); (case ha => rfl); (case hd => rfl)) | fail)
      · rw [if_pos h] at hcnt
        refine v_again rfl ⟨rfl, rfl, k + 1, by omega, by rw [hcnt]; rfl⟩ (by simp [headI]; omega)
      · rw [if_neg (by rw [h]; simp), Nat.add_zero] at hcnt
        refine v_again rfl ⟨rfl, rfl, k + 1, by omega, by rw [hcnt]; rfl⟩ (by simp [headI]; omega)
    · have htk : L.take k = L := List.take_of_length_le (by omega)
      rw [htk]
      have hcb : L.countP (inB of ·) ≤ L.length := List.countP_le_length
      generalize L.countP (inB of ·) = m at *
      repeat' (first | apply v_seq | apply v_region | apply v_nil | (apply v_exit; (case hp => rfl)) | (apply v_pure; (case hop => first | (apply p_move <;> rfl) | (apply p_lt <;> rfl) | (apply p_gt <;> rfl) | (apply p_assign <;> rfl) | (apply p_lenSlice <;> rfl) | (apply p_mul; (case hx => rfl); (case hy => rfl); (case h => omega))); (case hd => rfl)) | (apply v_cond; (case hc => rfl); all_goals (intro h; (try simp only [reduceCtorEq, dec_true, dec_false, decide_eq_true_eq, decide_eq_false_iff_not, Bool.not_eq_true', Bool.not_eq_false', Option.isNone_iff_eq_none, beq_true, beq_false, beq_iff_eq, beq_eq_false_iff_ne, ne_eq, decide_eq_decide, Bool.not_eq_true, Bool.not_eq_false, Decidable.not_not] at h); first | (exfalso; omega) | skip)) | fail)
      refine v_ret [] (outsA1 rfl rfl) (List.nil_sublist _) ⟨?_, rfl, rfl⟩
      rw [dec_eq]
      congr 1
      rw [decide_eq_decide]
      omega
theorem firsts_len (l : List Int) : ∀ k, (firsts l k).length ≤ k
  | 0 => by simp [firsts]
  | k + 1 => by
    have ih := firsts_len l k
    rw [firsts]
    split
    · split
      · omega
      · rw [List.length_append, List.length_singleton]
        omega
    · omega
theorem refMaj_s {G : GH} {l of : List Int} {lv ov : Value} (hl : Sl G 1 (IntR .i64) lv l) (ho : Sl G 1 (IntR .i64) ov of) (hb : l.length ≤ 10000) : Con Try.prog 21 #[lv, ov] G [] (Just (.bool (majB l of)) G) := by
  have qo := fun x => in_s x ho
  obtain ⟨A, c, rfl, hlc, hcm, hsome, hel, hwl⟩ := id hl.openInt
  obtain ⟨A', c', rfl, hlc', hcm', hsome', hel', -⟩ := id ho.openInt
  simp only [maxLen] at hcm hcm'
  apply Con.just
  rw [maj_ref]
  (refine v_enter Try.func21 rfl Try.ntmps21 rfl ?_; intro B _)
  repeat' (first | apply v_seq | apply v_region | apply v_nil | apply v_block | (apply v_pure; (case hop => first | (apply p_assign <;> rfl) | fail); (case hd => rfl)) | fail)
  refine v_loop [7, 5, 6, 0, 1] (fun us G' μ' => G' = G ∧ μ' = [] ∧ ∃ k, k ≤ l.length ∧ us = [Value.int .i64 (k : Nat), .int .i64 ((firsts l k).length : Nat), .int .i64 ((firsts l k).countP (inB of ·) : Nat), .slice A l.length c, .slice A' of.length c']) (fun us => l.length - (headI us).toNat) rfl ⟨rfl, rfl, 0, by omega, rfl⟩ ?_
  rintro us G' μ' ⟨rfl, rfl, k, hk, rfl⟩
  have hfl := firsts_len l k
  have hfc : (firsts l k).countP (inB of ·) ≤ (firsts l k).length := List.countP_le_length
  by_cases hlt : k < l.length
  · have e1 : ((k : Nat) : Int).toNat = k := by omega
    have hA := hsome (by omega)
    have hc0 := hel k hlt
    have ht : Sl G' 1 (IntR .i64) (.slice A k c) (l.take k) := hl.take hk
    have qi := in_s (l[k]) ht
    have hnx : firsts l (k + 1) = if inB (l.take k) l[k] = true then firsts l k else firsts l k ++ [l[k]] := by
      rw [firsts, dif_pos hlt, inB_eq]
    have qx := qo l[k]
    generalize l[k] = x at *
    generalize inB (l.take k) x = ib at *
    repeat' (first | apply v_seq | apply v_region | apply v_nil | apply v_skip | apply v_block | (apply v_pure; (case hop => first | (apply p_move <;> rfl) | (apply p_lt <;> rfl) | (apply p_lenSlice <;> rfl) | fail); (case hd => rfl)) | (apply v_cond; (case hc => rfl); all_goals (intro h; (try simp only [reduceCtorEq, dec_true, dec_false, decide_eq_true_eq, decide_eq_false_iff_not, Bool.not_eq_true', Bool.not_eq_false', Option.isNone_iff_eq_none, beq_true, beq_false, beq_iff_eq, beq_eq_false_iff_ne, ne_eq, decide_eq_decide, Bool.not_eq_true, Bool.not_eq_false, Decidable.not_not] at h); first | (exfalso; omega) | skip)) | fail)
    refine d_start _ (by kernel_rfl) (by kernel_rfl) (by kernel_rfl) (fun _ he => he) ?_
    all_goals (first | (apply d_take 0; (case hi => rfl); (case hop => first | (apply PureOp.read; apply p_move <;> rfl)); (case hf => kernel_rfl); (case hr => kernel_rfl); (case hd => rfl)) | fail)
    all_goals (first | (apply d_take 1; (case hi => rfl); (case hop => first | (apply PureOp.read; apply p_move <;> rfl)); (case hf => kernel_rfl); (case hr => kernel_rfl); (case hd => rfl)) | fail)
    all_goals (first | (apply d_take 2; (case hi => rfl); (case hop => first | (apply PureOp.read; apply p_sliceH; (case hx => rfl); (case hh => rfl); all_goals omega) | fail); (case hf => kernel_rfl); (case hr => kernel_rfl); (case hd => rfl)) | fail)
    all_goals (first | (apply d_take 3; (case hi => rfl); (case hop => first | (apply PureOp.read; apply p_move <;> rfl)); (case hf => kernel_rfl); (case hr => kernel_rfl); (case hd => rfl)) | fail)
    all_goals (first | (apply d_take 4; (case hi => rfl); (case hop => first | (apply PureOp.read; apply p_move <;> rfl)); (case hf => kernel_rfl); (case hr => kernel_rfl); (case hd => rfl)) | fail)
    all_goals (first | (apply d_take 5; (case hi => rfl); (case hop => first | (apply PureOp.read; apply p_indexAddrS; (case hx => rfl); (case hi => rfl); (case h0 => omega); (case h => omega); (case hA => first | assumption | fail))); (case hf => kernel_rfl); (case hr => kernel_rfl); (case hd => rfl)) | fail)
    all_goals (first | (apply d_take 6; (case hi => rfl); (case hop => first | ((apply r_load1; rfl; exact Cell.frozen hc0)) | fail); (case hf => kernel_rfl); (case hr => kernel_rfl); (case hd => rfl)) | fail)
    all_goals (first | (apply d_callJ 7 (hs := qi); (case hi => rfl); (case hr => kernel_rfl); (case ha => rfl); (case hd => rfl)) | fail)
    all_goals (apply d_done; (case hr => kernel_rfl))
    repeat' (first | apply v_seq | apply v_region | apply v_nil | apply v_skip | apply v_blk | (apply v_exit; (case hp => rfl)) | (apply v_pure; (case hop => first | (apply p_move <;> rfl) | (apply p_assign <;> rfl) | (apply p_add; (case hx => rfl); (case hy => rfl); (case h => omega)) | (apply p_indexAddrS; (case hx => rfl); (case hi => rfl); (case h0 => omega); (case h => omega); (case hA => first | assumption | fail)) | fail); (case hd => rfl)) | (apply v_cond; (case hc => rfl); all_goals (intro h; (try simp only [reduceCtorEq, dec_true, dec_false, decide_eq_true_eq, decide_eq_false_iff_not, Bool.not_eq_true', Bool.not_eq_false', Option.isNone_iff_eq_none, beq_true, beq_false, beq_iff_eq, beq_eq_false_iff_ne, ne_eq, decide_eq_decide, Bool.not_eq_true, Bool.not_eq_false, Decidable.not_not] at h); first | skip)) | (apply v_read; (case hop => first | (apply r_load1; rfl; exact Cell.frozen hc0)); (case hd => rfl)) | (apply v_callJ (hs := qx); (case ha => rfl); (case hd => rfl)) | fail)
    · rw [if_pos h] at hnx
      refine v_again rfl ⟨rfl, rfl, k + 1, by omega, by rw [hnx]; rfl⟩ (by simp [headI]; omega)
    · rw [if_neg (by simp_all)] at hnx
      have e2 : (firsts l (k + 1)).length = (firsts l k).length + 1 := by rw [hnx]; simp
      have e3 : (firsts l (k + 1)).countP (inB of ·) = (firsts l k).countP (inB of ·) + 1 := by rw [hnx, List.countP_append, List.countP_singleton, if_pos h]
      refine v_again rfl ⟨rfl, rfl, k + 1, by omega, by rw [e2, e3]; rfl⟩ (by simp [headI]; omega)
    · rw [if_neg (by simp_all)] at hnx
      have e2 : (firsts l (k + 1)).length = (firsts l k).length + 1 := by rw [hnx]; simp
      have e3 : (firsts l (k + 1)).countP (inB of ·) = (firsts l k).countP (inB of ·) := by rw [hnx, List.countP_append, List.countP_singleton, if_neg (by rw [h]; simp), Nat.add_zero]
      refine v_again rfl ⟨rfl, rfl, k + 1, by omega, by rw [e2, e3]; rfl⟩ (by simp [headI]; omega)
  · have e1 : k = l.length := by omega
    subst e1
    have hmm : (firsts l l.length).countP (of.contains ·) = (firsts l l.length).countP (inB of ·) := by simp only [inB_eq]
    rw [hmm]
    generalize (firsts l l.length).countP (inB of ·) = n2 at *
    generalize (firsts l l.length).length = n1 at *
    repeat' (first | apply v_seq | apply v_region | apply v_nil | (apply v_exit; (case hp => rfl)) | (apply v_pure; (case hop => first | (apply p_move <;> rfl) | (apply p_lt <;> rfl) | (apply p_gt <;> rfl) | (apply p_assign <;> rfl) | (apply p_lenSlice <;> rfl) | (apply p_sub; (case hx => rfl); (case hy => rfl); (case h => omega)) | fail); (case hd => rfl)) | (apply v_cond; (case hc => rfl); all_goals (intro h; (try simp only [reduceCtorEq, dec_true, dec_false, decide_eq_true_eq, decide_eq_false_iff_not, Bool.not_eq_true', Bool.not_eq_false', Option.isNone_iff_eq_none, beq_true, beq_false, beq_iff_eq, beq_eq_false_iff_ne, ne_eq, decide_eq_decide, Bool.not_eq_true, Bool.not_eq_false, Decidable.not_not] at h); first | (exfalso; omega) | skip)) | fail)
    refine v_ret [] (outsA1 rfl rfl) (List.nil_sublist _) ⟨?_, rfl⟩
    rw [dec_eq]
    congr 1
    rw [decide_eq_decide]
    omega
end Go.Proofs.Ytgflmkhfachlcaa
/-
  conf (layer 11), the second part: what may be, by the reference; the place of an index; clones.
-/
set_option linter.unusedSimpArgs false
set_option linter.unusedVariables false
namespace Go.Proofs.Ytgflmkhfachlcaa
open Go.Vx Go.ChangeShapes Go.WideShapes Go.ChangeAt Go.RowKit
end Go.Proofs.Ytgflmkhfachlcaa
/-
  conf (layer 11), the third part: the place of an index; clones; the members at an index.
-/
set_option linter.unusedSimpArgs false
set_option linter.unusedVariables false
namespace Go.Proofs.Ytgflmkhfachlcaa
open Go.Vx Go.ChangeShapes Go.WideShapes Go.ChangeAt Go.RowKit
theorem clone_s {G : GH} {l : List Int} {sv : Value} (hs : Sl G 1 (IntR .i64) sv l) (hl : l.length ≤ 1048576) : Con Try.prog 76 #[sv] G [] (fun r G' μ' => G' = G ∧ Grow 3 1 r l.length (l.map (.int .i64 ·)) μ') := by
  obtain ⟨A, c, rfl, hlc, hcm, hsome, hel, _⟩ := hs.openInt
  simp only [maxLen] at hcm
  (refine v_enter Try.func76 rfl Try.ntmps76 rfl ?_; intro B _)
  repeat' (first | apply v_seq | apply v_region | apply v_nil | apply v_skip | (apply v_pure; (case hop => first | (apply p_move <;> rfl) | (apply p_assign <;> rfl) | (apply p_eqNilSlice <;> rfl)); (case hd => rfl)) | (apply v_cond; (case hc => rfl); all_goals (intro h; (try simp only [reduceCtorEq, dec_true, dec_false, decide_eq_true_eq, decide_eq_false_iff_not, Bool.not_eq_true', Bool.not_eq_false', Option.isNone_iff_eq_none, beq_true, beq_false, beq_iff_eq, beq_eq_false_iff_ne, ne_eq, decide_eq_decide, Bool.not_eq_true, Bool.not_eq_false, Decidable.not_not] at h); first | skip)) | (apply v_buildSlice; (case hz => rfl); (case hi => rfl); (case hv => (simp only [List.map_cons, List.map_nil]; repeat (first | with_reducible exact evs_nil | fail))); (case hp => (first | with_reducible exact pk_nil | fail)); (case hb => rfl); (case hd => rfl); intro b) | fail)
  · refine v_ret [] (outsA1 rfl rfl) (by repeat (first | exact List.Sublist.refl _ | fail)) ?_
    have : l = [] := by
      cases l with
      | nil => rfl
      | cons a l => have := hsome (by simp); simp_all
    subst this
    exact ⟨rfl, Grow.nil _ _⟩
  · refine v_append (e := 3) (sz := 1) (zero := .int .i64 0) rfl (by omega) rfl rfl Grow.empty (List.Perm.refl _) (Src.ints hs) (allOne_ints l) (by omega) (by simp only [maxLen]; omega) rfl ?_
    intro v' ν' hg
    repeat' (first | apply v_nil | (apply v_pure; (case hop => first | (apply p_assign <;> rfl) | fail); (case hd => rfl)) | fail)
    refine v_ret ν' (outsA1 rfl rfl) (by simp) ?_
    rw [Nat.zero_add, List.nil_append] at hg
    exact ⟨rfl, hg⟩
end Go.Proofs.Ytgflmkhfachlcaa
/-
  The kit's contracts for three functions of slices, laid at this program (printed by a program of ours off the structures' fields).
-/
set_option linter.unusedSimpArgs false
set_option linter.unusedVariables false
namespace Go.Proofs.Ytgflmkhfachlcaa
open Go.Shelf Go.Lib Go.Sort Go.RowKit
def laysSearch_ren : Go.Shelf.Ren := ⟨fun | 25 => 74 | 31 => 84 | 32 => 89 | 37 => 97 | n => n, fun | 0 => 0 | 3 => 3 | 4 => 4 | 22 => 22 | 40 => 69 | n => n, fun n => n⟩
theorem laysSearch : Lays2.n25 Try.prog laysSearch_ren where
  mixed := by kernel_rfl
  f25 := Try.func74.trans (congrArg some (by kernel_rfl))
  f31 := Try.func84.trans (congrArg some (by kernel_rfl))
  f32 := Try.func89.trans (congrArg some (by kernel_rfl))
  f37 := Try.func97.trans (congrArg some (by kernel_rfl))
  t0 := Try.underlying0
  a0 := Try.isAgg0
  z0 := Try.sizeOf0
  v0 := Try.zeroValue0
  t3 := Try.underlying3
  a3 := Try.isAgg3
  z3 := Try.sizeOf3
  v3 := Try.zeroValue3
  t4 := Try.underlying4
  a4 := Try.isAgg4
  z4 := Try.sizeOf4
  v4 := Try.zeroValue4
  t22 := Try.underlying22
  a22 := Try.isAgg22
  z22 := Try.sizeOf22
  v22 := Try.zeroValue22
  t40 := Try.underlying69
  a40 := Try.isAgg69
  z40 := Try.sizeOf69
  v40 := Try.zeroValue69

def laysDelete_ren : Go.Shelf.Ren := ⟨fun | 23 => 77 | n => n, fun | 0 => 0 | 3 => 3 | 4 => 4 | 22 => 22 | n => n, fun n => n⟩
theorem laysDelete : Lays2.n23 Try.prog laysDelete_ren where
  mixed := by kernel_rfl
  f23 := Try.func77.trans (congrArg some (by kernel_rfl))
  t0 := Try.underlying0
  a0 := Try.isAgg0
  z0 := Try.sizeOf0
  v0 := Try.zeroValue0
  t3 := Try.underlying3
  a3 := Try.isAgg3
  z3 := Try.sizeOf3
  v3 := Try.zeroValue3
  t4 := Try.underlying4
  a4 := Try.isAgg4
  z4 := Try.sizeOf4
  v4 := Try.zeroValue4
  t22 := Try.underlying22
  a22 := Try.isAgg22
  z22 := Try.sizeOf22
  v22 := Try.zeroValue22
  i3 := by kernel_rfl

def laysInsert_ren : Go.Shelf.Ren := ⟨fun | 21 => 75 | 27 => 90 | 28 => 91 | 35 => 98 | 39 => 100 | n => n, fun | 0 => 0 | 3 => 3 | 4 => 4 | 22 => 22 | n => n, fun n => n⟩
theorem laysInsert : Lays2.n21 Try.prog laysInsert_ren where
  mixed := by kernel_rfl
  f21 := Try.func75.trans (congrArg some (by kernel_rfl))
  f27 := Try.func90.trans (congrArg some (by kernel_rfl))
  f28 := Try.func91.trans (congrArg some (by kernel_rfl))
  f35 := Try.func98.trans (congrArg some (by kernel_rfl))
  f39 := Try.func100.trans (congrArg some (by kernel_rfl))
  t0 := Try.underlying0
  a0 := Try.isAgg0
  z0 := Try.sizeOf0
  v0 := Try.zeroValue0
  t3 := Try.underlying3
  a3 := Try.isAgg3
  z3 := Try.sizeOf3
  v3 := Try.zeroValue3
  t4 := Try.underlying4
  a4 := Try.isAgg4
  z4 := Try.sizeOf4
  v4 := Try.zeroValue4
  t22 := Try.underlying22
  a22 := Try.isAgg22
  z22 := Try.sizeOf22
  v22 := Try.zeroValue22
  i3 := by kernel_rfl

end Go.Proofs.Ytgflmkhfachlcaa
/-
  The three functions of slices, as contracts of ours.
-/
set_option linter.unusedSimpArgs false
set_option linter.unusedVariables false
namespace Go.Proofs.Ytgflmkhfachlcaa
open Go.Vx Go.ChangeShapes Go.WideShapes Go.ChangeAt Go.RowKit
attribute [local semireducible] Con
theorem Con.ofCalls {P : Program} {f : FuncId} {args : Array Value} {G : GH} {μ : OH} {Φ : Value → GH → OH → Prop} (h : ∀ w, Mem G μ w → Calls P f args w fun e w' => ∃ v, e = .returned v ∧ ∃ G' μ', Step G μ w G' μ' w' ∧ Φ v G' μ') : Con P f args G μ Φ := by
  intro w hw
  exact (h w hw).mono fun e w' hq => by
    obtain ⟨v, rfl, hv⟩ := hq
    exact ⟨v, rfl, hv⟩
theorem cell_spot {G : GH} {a : Addr} {v : Value} (h : GH.cell? G a = some v) : a.spot = none := by
  unfold GH.cell? at h
  split at h
  · split at h
    · cases h
    · rename_i h'
      cases hs : a.spot with
      | none => rfl
      | some s => rw [hs] at h'; simp at h'
  · cases h
theorem search_s {G : GH} {l : List Int} {sv : Value} (x : Int) (hs : Sl G 1 (IntR .i64) sv l) (hl : 0 < l.length) (hbig : l.length ≤ 1048576) (hsort : l.Pairwise (· ≤ ·)) :
    Con Try.prog 74 #[sv, .int .i64 x] G [] (Just (.tuple #[.int .i64 (l.countP (· < x) : Nat), .bool (l.contains x)]) G) := by
  obtain ⟨A, c, rfl, hlc, hcm, hsome, hel, _⟩ := hs.openInt
  refine Con.ofCalls fun w hw => ?_
  have hA := hsome hl
  cases A with
  | none => cases hA
  | some a =>
    obtain ⟨b, off, spot⟩ := a
    have h0 := cell_spot (hel 0 hl)
    have : spot = none := by simpa [adr, Addr.add] using h0
    subst this
    refine (Any.slices_BinarySearch_int laysSearch b off l.length c l x w (Nat.le_refl _) (by omega) (fun j hj => ?_) (by rw [List.take_length]; exact hsort)).mono ?_
    · have := hel j hj
      rw [Nat.mul_one] at this
      have h2 := (Cell.frozen (μ := []) this) w hw.sees
      rw [show (adr (some ⟨b, off, none⟩)).add j = (⟨b, off + j, none⟩ : Addr) from add_mk b off j] at h2
      rw [h2, List.getD_eq_getElem?_getD, List.getElem?_eq_getElem hj]; rfl
    · rintro e w' ⟨rfl, q, rfl⟩
      rw [List.take_length]
      exact ⟨_, rfl, G, [], Step.drew hw q, rfl, rfl, rfl⟩
/-! ### What the kit's contracts do to the world, in steps of ours -/
section
variable {G : GH} {μ μ' : OH} {w : World} {b : Nat} {e : TypeId}
theorem Step.map {vs vs' : List Value} {f : Array Value → Array Value} (hw : Mem G μ w) (hb : Has μ b vs e) (hf : f vs.toArray = vs'.toArray) (hu : Upd b (.cells vs'.toArray e (0, 0)) μ μ') : Step G μ w G μ' (Go.Sort.mapBlock w b f) := by
  have hg := hw.own _ _ hb
  refine Step.upd hw hu rfl rfl rfl (by simp [Go.Sort.mapBlock]) ?_ (fun c hc => ?_)
  · simp only [Go.Sort.mapBlock, Array.getElem?_modify, if_true, hg, Option.map_some, Go.Sort.onCells, hf]
  · simp only [Go.Sort.mapBlock, Array.getElem?_modify]
    rw [if_neg (fun h => hc h.symm)]
theorem over_cons {vs : List Value} {i : Nat} {v : Value} {r : List Value} (h : i < vs.length) : over (vs.set i v) (i + 1) r = over vs i (v :: r) := by
  have t1 : (vs.set i v).take (i + 1) = vs.take i ++ [v] := by
    rw [List.take_add_one, List.getElem?_set_self h, List.take_set, List.set_eq_of_length_le (by rw [List.length_take]; omega)]; rfl
  have t2 : (vs.set i v).drop (i + 1 + r.length) = vs.drop (i + 1 + r.length) := by
    rw [List.drop_set, if_pos (by omega)]
  simp only [over, t1, t2, List.length_cons]
  rw [show i + 1 + r.length = i + (r.length + 1) by omega]
  simp
theorem Step.cells : ∀ (us : List Value) {vs : List Value} {o : Nat} {ν : OH} {w : World}, Mem G ((b, .cells vs.toArray e (0, 0)) :: ν) w → o + us.length ≤ vs.length →
    Step G ((b, .cells vs.toArray e (0, 0)) :: ν) w G ((b, .cells (over vs o us).toArray e (0, 0)) :: ν) (w.setCells b o us)
  | [], vs, o, ν, w, hw, _ => by simpa [over, World.setCells] using Step.refl hw
  | u :: us, vs, o, ν, w, hw, h => by
    rw [List.length_cons] at h
    have h1 : Step G ((b, .cells vs.toArray e (0, 0)) :: ν) w G ((b, .cells (vs.set o u).toArray e (0, 0)) :: ν) (w.setCell ⟨b, o, none⟩ u) := by
      rw [Go.Sort.setCell_eq]
      exact Step.map hw (List.Mem.head _) (by simp) (.here _ _)
    have h2 := Step.cells us (vs := vs.set o u) (o := o + 1) h1.mem (by simp; omega)
    rw [over_cons (by omega)] at h2
    exact h1.trans h2
end
theorem over_at {a m r us : List Value} (h : us.length = m.length) : over (a ++ m ++ r) a.length us = a ++ us ++ r := by
  simp only [over, h, List.append_assoc, List.take_left, ← List.drop_drop, List.drop_left]
theorem cellOwn {μ : OH} {G : GH} {w : World} {b : Nat} {e : TypeId} {vs : List Value} (hw : Mem G μ w) (hb : Has μ b vs e) {j : Nat} {v : Value} (hv : vs[j]? = some v) : w.cell? ⟨b, 0 + j, none⟩ = some v := by
  rw [Nat.zero_add]
  exact Cell.own hb hv w hw.sees
theorem frozenOwn {μ : OH} {G : GH} {w : World} {b : Nat} {e : TypeId} {vs : List Value} (hw : Mem G μ w) (hb : Has μ b vs e) (j : Nat) : w.frozen? ⟨b, j, none⟩ = false := by
  have := hw.own _ _ hb
  simp [World.frozen?, this]
theorem shapeOwn {μ : OH} {G : GH} {w : World} {b : Nat} {e : TypeId} {vs : List Value} (hw : Mem G μ w) (hb : Has μ b vs e) : w.shape? b = some (e, vs.length) := by
  have := hw.own _ _ hb
  simp [World.shape?, this]
theorem one_ints {k : IntKind} (l : List Int) : ∀ v ∈ l.map (Value.int k ·), v.oneCell' = true := fun v hv => List.all_eq_true.1 (allOne_ints l) v hv
theorem over_at2 {a m r us : List Value} (h : us.length = m.length) : over (a ++ (m ++ r)) a.length us = a ++ us ++ r := by
  rw [← List.append_assoc]; exact over_at h
theorem growOf {e : TypeId} {b n cap : Nat} {xs cells : List Value} (hx : xs.length = n) (hcells : ∃ spare, cells = xs ++ spare) (hl : cells.length = cap) (hn : n ≤ cap) (hm : cap ≤ maxLen) : Grow e 1 (.slice (some ⟨b, 0, none⟩) n cap) n xs [(b, .cells cells.toArray e (0, 0))] := by
  obtain ⟨spare, rfl⟩ := hcells
  exact ⟨by omega, .inr ⟨b, cap, spare, rfl, rfl, hn, hm, by omega⟩⟩
theorem shift_cells {cs spare : List Value} {i : Nat} {x : Value} (hi : i ≤ cs.length) (hs : 0 < spare.length) : ∃ r, over (over (cs ++ spare) (i + 1) (cs.drop i)) i [x] = cs.take i ++ [x] ++ cs.drop i ++ r := by
  have hlt : 0 < (cs.drop i ++ spare).length := by simp; omega
  obtain ⟨t0, t, ht⟩ : ∃ t0 t, cs.drop i ++ spare = t0 :: t := by
    cases h : cs.drop i ++ spare with
    | nil => rw [h] at hlt; simp at hlt
    | cons a b => exact ⟨a, b, rfl⟩
  have htl : (cs.drop i).length ≤ t.length := by
    have := congrArg List.length ht
    simp at this ⊢
    omega
  have e0 : cs ++ spare = (cs.take i ++ [t0]) ++ t.take (cs.drop i).length ++ t.drop (cs.drop i).length := by
    rw [List.append_assoc, List.take_append_drop, List.append_assoc, List.singleton_append, ← ht, ← List.append_assoc, List.take_append_drop]
  have hi1 : (cs.take i ++ [t0]).length = i + 1 := by simp; omega
  have hi2 : (cs.take i).length = i := by simp; omega
  refine ⟨t.drop (cs.drop i).length, ?_⟩
  rw [e0, ← hi1, over_at (by rw [List.length_take]; omega)]
  have e1 : cs.take i ++ [t0] ++ cs.drop i ++ t.drop (cs.drop i).length = cs.take i ++ [t0] ++ (cs.drop i ++ t.drop (cs.drop i).length) := by simp
  rw [e1]
  conv => lhs; rw [show over (cs.take i ++ [t0] ++ (cs.drop i ++ t.drop (cs.drop i).length)) i [x] = over (cs.take i ++ [t0] ++ (cs.drop i ++ t.drop (cs.drop i).length)) (cs.take i).length [x] by rw [hi2]]
  rw [over_at (m := [t0]) (us := [x]) rfl]
  simp
theorem end_cells {cs spare : List Value} {x : Value} (hs : 0 < spare.length) : ∃ r, over (cs ++ spare) cs.length [x] = cs ++ [x] ++ r := by
  match spare, hs with
  | y :: r, _ =>
    refine ⟨r, ?_⟩
    have : cs ++ y :: r = cs ++ [y] ++ r := by simp
    rw [this, over_at (m := [y]) (us := [x]) rfl]
theorem insert_s {G : GH} {l : List Int} {i : Nat} {x : Int} {b vb cap : Nat} {spare : List Value} (hl : 0 < l.length) (hbig : l.length ≤ 1048576) (hi : i ≤ l.length) (hc : l.length ≤ cap) (hm : cap ≤ maxLen) (hcap : (l.map (Value.int .i64 ·) ++ spare).length = cap) :
    Con Try.prog 75 #[.slice (some ⟨b, 0, none⟩) l.length cap, .int .i64 i, .slice (some ⟨vb, 0, none⟩) 1 1] G [(b, .cells (l.map (Value.int .i64 ·) ++ spare).toArray 3 (0, 0)), (vb, .cells [Value.int .i64 x].toArray 3 (0, 0))]
      (fun r G' μ' => G' = G ∧ Grow 3 1 r (l.length + 1) ((l.take i ++ [x] ++ l.drop i).map (Value.int .i64 ·)) μ') := by
  refine Con.ofCalls fun w hw => ?_
  have hne : vb ≠ b := by
    have := hw.nodup
    simp at this
    exact fun e => this e.symm
  simp only [maxLen] at hm
  have h1 : Has [(b, .cells (l.map (Value.int .i64 ·) ++ spare).toArray 3 (0, 0)), (vb, .cells [Value.int .i64 x].toArray 3 (0, 0))] b (l.map (Value.int .i64 ·) ++ spare) 3 := List.Mem.head _
  have h2 : Has [(b, .cells (l.map (Value.int .i64 ·) ++ spare).toArray 3 (0, 0)), (vb, .cells [Value.int .i64 x].toArray 3 (0, 0))] vb [Value.int .i64 x] 3 := List.Mem.tail _ (List.Mem.head _)
  have hcl : (l.map (Value.int .i64 ·)).length = l.length := by simp
  have hsl : spare.length = cap - l.length := by rw [List.length_append, hcl] at hcap; omega
  have hcs : ∀ j v, (l.map (Value.int .i64 ·))[j]? = some v → w.cell? ⟨b, 0 + j, none⟩ = some v := fun j v hv => cellOwn hw h1 (by rw [List.getElem?_append_left (List.getElem?_eq_some_iff.1 hv).1]; exact hv)
  have hvs : ∀ j v, [Value.int .i64 x][j]? = some v → w.cell? ⟨vb, 0 + j, none⟩ = some v := fun j v hv => cellOwn hw h2 hv
  have hsp : ∀ j, j < cap → (w.cell? ⟨b, 0 + j, none⟩).isSome = true := fun j hj => by
    have hlt : j < (l.map (Value.int .i64 ·) ++ spare).length := by rw [hcap]; exact hj
    rw [cellOwn hw h1 (List.getElem?_eq_getElem hlt)]; rfl
  have h1v : ∀ v ∈ [Value.int .i64 x], v.oneCell' = true := by intro v hv; simp at hv; subst hv; rfl
  have hlen : (l.take i ++ [x] ++ l.drop i).length = l.length + 1 := by simp; omega
  by_cases hroom : l.length + 1 ≤ cap
  · by_cases hin : i < l.length
    · refine (Any2.slices_Insert_int_shift laysInsert b 0 l.length cap i vb 0 1 1 (l.map (Value.int .i64 ·)) [Value.int .i64 x] w hin (by omega) hroom hm hne hcl rfl hcs (fun j hj => hsp j (by omega)) (fun j _ => frozenOwn hw h1 _) hvs (one_ints l) h1v _ _ _ _ (shapeOwn hw h2) (shapeOwn hw h1) (by rw [hcap]; omega) (frozenOwn hw h2 _) (frozenOwn hw h2 _)).mono ?_
      rintro e w' ⟨rfl, rfl⟩
      obtain ⟨r, hr⟩ := shift_cells (cs := l.map (Value.int .i64 ·)) (spare := spare) (i := i) (x := .int .i64 x) (by omega) (by omega)
      have st0 := Step.drew hw 1
      have st1 := Step.cells ((l.map (Value.int .i64 ·)).drop i) (o := 0 + (i + 1)) st0.mem (by simp; omega)
      have st2 := Step.cells [Value.int .i64 x] (o := 0 + i) st1.mem (by rw [over_length (by simp; omega), hcap]; simp; omega)
      rw [Nat.zero_add, Nat.zero_add, hr] at st2
      refine ⟨_, rfl, G, _, ((st0.trans st1).trans (by rw [Nat.zero_add, Nat.zero_add]; rw [Nat.zero_add] at st1; exact st2)).drop (List.Sublist.cons_cons _ (List.nil_sublist _)), rfl, growOf (by simp; omega) ⟨r, by simp [List.map_take, List.map_drop]⟩ ?_ hroom hm⟩
      rw [← hr, over_length (by rw [over_length (by simp; omega)]; simp; omega), over_length (by simp; omega), hcap]
    · obtain rfl : i = l.length := by omega
      refine (Any2.slices_Insert_int_end_room laysInsert b 0 l.length cap vb 0 1 1 [Value.int .i64 x] w (by omega) hroom hm rfl (fun j hj => by rw [Nat.add_assoc]; exact hsp _ (by omega)) (fun j _ => frozenOwn hw h1 _) hvs h1v).mono ?_
      rintro e w' ⟨rfl, rfl⟩
      obtain ⟨r, hr⟩ := end_cells (cs := l.map (Value.int .i64 ·)) (spare := spare) (x := .int .i64 x) (by omega)
      have st1 := Step.cells [Value.int .i64 x] (o := 0 + l.length) hw (by simp; omega)
      rw [hcl] at hr
      have hr' : over (l.map (Value.int .i64 ·) ++ spare) (0 + l.length) [Value.int .i64 x] = l.map (Value.int .i64 ·) ++ [Value.int .i64 x] ++ r := by rw [Nat.zero_add]; exact hr
      rw [hr'] at st1
      refine ⟨_, rfl, G, _, st1.drop (List.Sublist.cons_cons _ (List.nil_sublist _)), rfl, growOf (by simp) ⟨r, by simp⟩ ?_ hroom hm⟩
      rw [← hr', over_length (by simp; omega), hcap]
  · by_cases hin : i < l.length
    · refine (Any2.slices_Insert_int_grow laysInsert b 0 l.length cap i vb 0 1 1 (l.map (Value.int .i64 ·)) [Value.int .i64 x] w hin (by omega) hc (by omega) (by omega) hcl rfl hcs hvs (one_ints l) h1v).mono ?_
      rintro e w' ⟨rfl, rfl⟩
      have hge := grownCap_ge w (l.length + 1) cap 3
      have hle := grownCap_le_maxLen w (l.length + 1) cap 3 (by simp only [maxLen]; omega)
      generalize hK : (Builtin.zeroCells (Value.int .i64 0).cells (grownCap w (l.length + 1) cap (laysInsert_ren.t 3) - (l.length + 1))) = K
      have hKl : K.toList.length = grownCap w (l.length + 1) cap 3 - (l.length + 1) := by
        rw [← hK, show laysInsert_ren.t 3 = 3 from rfl]
        simp [size_zeroCells, Value.cells]
      generalize hZ : (Builtin.zeroCells (Value.int .i64 0).cells (l.length + 1 - i)) = Z
      have hZl : Z.toList.length = l.length + 1 - i := by
        rw [← hZ]
        simp [size_zeroCells, Value.cells]
      obtain ⟨z0, Z', hZ'⟩ : ∃ z0 Z', Z.toList = z0 :: Z' := by
        cases h : Z.toList with
        | nil => rw [h] at hZl; simp at hZl; omega
        | cons a b => exact ⟨a, b, rfl⟩
      have hZl' : Z'.length = l.length - i := by rw [hZ', List.length_cons] at hZl; omega
      have hobj : Obj.cells (((l.map (Value.int .i64 ·)).take i).toArray ++ Z ++ K) (laysInsert_ren.t 3) = Obj.cells ((l.map (Value.int .i64 ·)).take i ++ [z0] ++ (Z' ++ K.toList)).toArray 3 (0, 0) := by
        rw [show laysInsert_ren.t 3 = 3 from rfl]
        congr 1
        apply Array.ext'
        simp [hZ']
      rw [hobj]
      have st1 := (Step.alloc hw (.cells ((l.map (Value.int .i64 ·)).take i ++ [z0] ++ (Z' ++ K.toList)).toArray 3 (0, 0))).drop (List.Sublist.cons_cons _ (List.nil_sublist _))
      have st2 := Step.drew st1.mem 1
      have hti : ((l.map (Value.int .i64 ·)).take i).length = i := by simp; omega
      have st3 := Step.cells [Value.int .i64 x] (o := ((l.map (Value.int .i64 ·)).take i).length) st2.mem (by simp)
      rw [over_at (m := [z0]) (us := [Value.int .i64 x]) rfl] at st3
      have st4 := Step.drew st3.mem 1
      have st5 := Step.cells ((l.map (Value.int .i64 ·)).drop i) (o := ((l.map (Value.int .i64 ·)).take i ++ [Value.int .i64 x]).length) st4.mem (by simp; omega)
      rw [over_at2 (m := Z') (by simp; omega)] at st5
      have st := ((((st1.trans st2).trans st3).trans st4).trans st5)
      rw [hti, List.length_append, hti] at st
      refine ⟨_, rfl, G, _, st, rfl, growOf (by simp; omega) ⟨K.toList, by simp [List.map_take, List.map_drop]⟩ ?_ hge hle⟩
      rw [List.length_append, hKl, show laysInsert_ren.t 3 = 3 from rfl]
      simp
      omega
    · obtain rfl : i = l.length := by omega
      refine (Any2.slices_Insert_int_end_grow laysInsert (some ⟨b, 0, none⟩) l.length cap vb 0 1 1 (l.map (Value.int .i64 ·)) [Value.int .i64 x] w (by omega) hc (by omega) (by omega) hcl rfl (by intro h; cases h) (by rintro a ⟨rfl⟩ j v hv; rw [add_mk]; exact hcs j v hv) hvs h1v).mono ?_
      rintro e w' ⟨rfl, rfl⟩
      have hge := grownCap_ge w (l.length + 1) cap 3
      have hle := grownCap_le_maxLen w (l.length + 1) cap 3 (by simp only [maxLen]; omega)
      have st0 := Step.drew hw 1
      have st1 := Step.alloc st0.mem (.cells (l.map (Value.int .i64 ·) ++ [Value.int .i64 x] ++ (Builtin.zeroCells (Value.int .i64 0).cells (grownCap w (l.length + 1) cap 3 - (l.length + 1))).toList).toArray 3 (0, 0))
      have hobj : Obj.cells (l.map (Value.int .i64 ·) ++ [Value.int .i64 x] ++ (Builtin.zeroCells (Value.int .i64 0).cells (grownCap w (l.length + 1) cap 3 - (l.length + 1))).toList).toArray 3 (0, 0) = Obj.cells ((l.map (Value.int .i64 ·) ++ [Value.int .i64 x]).toArray ++ Builtin.zeroCells (Value.int .i64 0).cells (grownCap w (l.length + 1) cap 3 - (l.length + 1))) 3 (0, 0) := by simp
      have st2 := (st0.trans st1).drop (List.Sublist.cons_cons _ (List.nil_sublist _))
      refine ⟨_, rfl, G, [(w.heap.size, .cells (l.map (Value.int .i64 ·) ++ [Value.int .i64 x] ++ (Builtin.zeroCells (Value.int .i64 0).cells (grownCap w (l.length + 1) cap 3 - (l.length + 1))).toList).toArray 3 (0, 0))], ?_, rfl, growOf (by simp) ⟨_, by rw [List.take_length, List.drop_length]; simp; rfl⟩ ?_ hge hle⟩
      · have st3 := st2
        conv at st3 => arg 6; rw [hobj]
        exact st3
      · rw [show laysInsert_ren.t 3 = 3 from rfl]
        simp [size_zeroCells, Value.cells]
        omega
theorem putCells_list {cs spare : List Value} {d : List Int} (h : cs.length = d.length) : Go.Sort.putCells (Value.int .i64) 0 d.toArray (cs ++ spare).toArray = (d.map (Value.int .i64 ·) ++ spare).toArray := by
  apply Array.ext_getElem?
  intro k
  simp only [Go.Sort.putCells, Array.getElem?_mapIdx, List.getElem?_toArray]
  by_cases hk : k < d.length
  · rw [List.getElem?_append_left (by omega), List.getElem?_append_left (by simpa using hk), List.getElem?_eq_getElem (by omega)]
    simp [hk]
  · rw [List.getElem?_append_right (by omega), List.getElem?_append_right (by simp; omega)]
    simp only [List.length_map, h]
    cases hs : spare[k - d.length]? with
    | none => simp
    | some v => simp [hk]
theorem delete_s {G : GH} {l : List Int} {i : Nat} {b cap : Nat} {spare : List Value} (hi : i < l.length) (hc : l.length ≤ cap) (hm : cap ≤ maxLen) (hcap : (l.map (Value.int .i64 ·) ++ spare).length = cap) :
    Con Try.prog 77 #[.slice (some ⟨b, 0, none⟩) l.length cap, .int .i64 i, .int .i64 ((i + 1 : Nat) : Int)] G [(b, .cells (l.map (Value.int .i64 ·) ++ spare).toArray 3 (0, 0))]
      (fun r G' μ' => G' = G ∧ Grow 3 1 r (l.length - 1) ((l.take i ++ l.drop (i + 1)).map (Value.int .i64 ·)) μ') := by
  refine Con.ofCalls fun w hw => ?_
  have hm' := hm
  simp only [maxLen] at hm'
  have h1 : Has [(b, .cells (l.map (Value.int .i64 ·) ++ spare).toArray 3 (0, 0))] b (l.map (Value.int .i64 ·) ++ spare) 3 := List.Mem.head _
  refine (Any.slices_Delete_int laysDelete b 0 cap i (i + 1) l w (fun j hj => ⟨?_, frozenOwn hw h1 _⟩) hc hm' (by omega) (by omega)).mono ?_
  · have hj' : j < l.length := by simpa using hj
    rw [cellOwn hw h1 (v := .int .i64 l[j]) (by rw [List.getElem?_append_left (by simpa using hj'), List.getElem?_map, List.getElem?_eq_getElem hj']; rfl)]
    simp [hj']
  · rintro e w' ⟨rfl, q, rfl⟩
    have st0 := Step.drew hw q
    have hdl : (l.take i ++ l.drop (i + 1) ++ List.replicate (i + 1 - i) 0).length = l.length := by simp; omega
    have st1 : Step G _ _ G [(b, .cells ((l.take i ++ l.drop (i + 1) ++ List.replicate (i + 1 - i) 0).map (Value.int .i64 ·) ++ spare).toArray 3 (0, 0))] _ := Step.map (f := Go.Sort.putCells (Value.int .i64) 0 (l.take i ++ l.drop (i + 1) ++ List.replicate (i + 1 - i) 0).toArray) st0.mem h1 (putCells_list (by rw [hdl]; simp)) (.here _ _)
    refine ⟨_, rfl, G, _, st0.trans st1, rfl, ?_⟩
    rw [show i + 1 - i = 1 by omega]
    refine growOf (by simp; omega) ⟨Value.int .i64 0 :: spare, by simp⟩ ?_ (by omega) hm
    rw [List.length_append, List.length_map] at hcap ⊢
    simp
    omega
end Go.Proofs.Ytgflmkhfachlcaa
/-
  conf (layer 11), the fourth part: members with a change.
-/
set_option linter.unusedSimpArgs false
set_option linter.unusedVariables false
namespace Go.Proofs.Ytgflmkhfachlcaa
open Go.Vx Go.ChangeShapes Go.WideShapes Go.ChangeAt Go.RowKit
/-- Members with a change; none: it may not be. -/
def changedL (l : List Int) (kind n : Int) : List Int :=
  if kind = 7 ∧ l.contains n = false ∧ 1 ≤ n ∧ n ≤ 9 then l.take (l.countP (· < n)) ++ [n] ++ l.drop (l.countP (· < n))
  else if kind = 8 ∧ l.contains n = true ∧ 1 < l.length then l.take (l.countP (· < n)) ++ l.drop (l.countP (· < n) + 1) else []
theorem MemOK.sorted {l : List Int} (h : MemOK l) : l.Pairwise (· < ·) := by
  rw [List.pairwise_iff_getElem]
  obtain ⟨_, h⟩ := h
  have key : ∀ (d i : Nat) (hi : i + d + 1 < l.length), l[i] < l[i + d + 1] := by
    intro d
    induction d with
    | zero =>
      intro i hi
      have := (h (i + 1) (by omega)).2.2 (by omega)
      simpa using this
    | succ d ih =>
      intro i hi
      have h1 := ih i (by omega)
      have h2 := (h (i + (d + 1) + 1) hi).2.2 (by omega)
      have h3 : l[i + (d + 1) + 1 - 1] = l[i + d + 1] := by congr 1
      rw [h3] at h2
      omega
  intro i j hi hj hij
  have := key (j - i - 1) i (by omega)
  have h3 : l[i + (j - i - 1) + 1]'(by omega) = l[j] := by congr 1; omega
  omega
theorem MemOK.weak {l : List Int} (h : MemOK l) : l.Pairwise (· ≤ ·) := h.sorted.imp fun h => Int.le_of_lt h
theorem countP_lt {l : List Int} {n : Int} (h : l.contains n = true) : l.countP (· < n) < l.length := by
  have h1 : n ∈ l := by simpa using h
  rw [Nat.lt_iff_le_and_ne]
  refine ⟨List.countP_le_length, fun e => ?_⟩
  have := List.countP_eq_length.1 e n h1
  simp at this
theorem changed_s {G : GH} {l : List Int} {sv : Value} (kind n : Int) (hs : Sl G 1 (IntR .i64) sv l) (hok : MemOK l) (hbig : l.length ≤ 1048000) (hn : (Lit.int .i64 n).wf = true) :
    Con Try.prog 64 #[sv, .int .i64 kind, .int .i64 n] G [] (fun r G' μ' => μ' = [] ∧ ∃ v, r = .tuple #[v, .bool (decide (0 < (changedL l kind n).length))] ∧ Sl G' 1 (IntR .i64) v (changedL l kind n)) := by
  have hsearch := search_s n hs hok.1 (by omega) hok.weak
  obtain ⟨A, c, rfl, hlc, hcm, hsome, hel, hwf⟩ := hs.openInt
  simp only [maxLen] at hcm
  (refine v_enter Try.func64 rfl Try.ntmps64 rfl ?_; intro B _)
  repeat' (first | apply v_seq | apply v_region | apply v_nil | apply v_skip | apply v_block | apply v_blk | (apply v_take; (case hg => rfl)) | (apply v_pass; (case hg => rfl); (case hn => rfl); (case hd => rfl)) | (apply v_pure; (case hop => first | (apply p_move <;> rfl) | (apply p_eq <;> rfl) | (apply p_gt <;> rfl) | (apply p_le <;> rfl) | (apply p_ge <;> rfl) | (apply p_assign <;> rfl) | (apply p_pickT <;> rfl) | (apply p_pickF <;> rfl) | (apply p_not <;> rfl) | (apply p_lenSlice <;> rfl) | (apply p_extract0 <;> rfl) | (apply p_extract1 <;> rfl) | fail); (case hd => rfl)) | (apply v_condF; (case hc => rfl)) | (apply v_cond; (case hc => rfl); all_goals (intro h; (try simp only [reduceCtorEq, dec_true, dec_false, decide_eq_true_eq, decide_eq_false_iff_not, Bool.not_eq_true', Bool.not_eq_false', Option.isNone_iff_eq_none, beq_true, beq_false, beq_iff_eq, beq_eq_false_iff_ne, ne_eq, decide_eq_decide, Bool.not_eq_true, Bool.not_eq_false, Decidable.not_not] at h); first | skip)) | (apply v_guardB; (case h1 => rfl); (case h2 => rfl); all_goals (intro h; (try simp only [reduceCtorEq, dec_true, dec_false, decide_eq_true_eq, decide_eq_false_iff_not, Bool.not_eq_true', Bool.not_eq_false', Option.isNone_iff_eq_none, beq_true, beq_false, beq_iff_eq, beq_eq_false_iff_ne, ne_eq, decide_eq_decide, Bool.not_eq_true, Bool.not_eq_false, Decidable.not_not] at h); first | (exfalso; omega) | skip)) | (apply v_callJ (hs := hsearch); (case ha => rfl); (case hd => rfl)) | fail)
  all_goals try
    (refine v_ret [] (outsA2 rfl rfl rfl) (by repeat (first | exact List.Sublist.refl _ | fail)) ?_
     have e : changedL l kind n = [] := by
       unfold changedL
       rw [if_neg, if_neg]
       · rintro ⟨h1, h2, h3⟩
         first | omega | simp_all
       · rintro ⟨h1, h2, h3⟩
         first | omega | simp_all
     rw [e]
     exact ⟨rfl, _, rfl, Sl.nil⟩)
  · have e : changedL l kind n = l.take (l.countP (· < n)) ++ [n] ++ l.drop (l.countP (· < n)) := by
      unfold changedL
      rw [if_pos]
      exact ⟨by assumption, by assumption, by omega, by omega⟩
    refine v_call (μ1 := []) (μ2 := _) rfl (clone_s hs (by omega)) (List.Perm.refl _) rfl ?_
    rintro r G' μ1 - ⟨rfl, hlen, ⟨-, h0, -⟩ | ⟨b, cap, spare, rfl, rfl, h1, h2, h3⟩⟩
    · have := hok.1; omega
    have hcP : l.countP (· < n) ≤ l.length := List.countP_le_length
    repeat' (first | (apply v_pure; (case hop => first | (apply p_move <;> rfl) | fail); (case hd => rfl)) | (apply v_buildSlice; (case hz => rfl); (case hi => rfl); (case hv => (simp only [List.map_cons, List.map_nil]; repeat (first | with_reducible exact evs_nil | (apply evs_cons; (case h1 => rfl))))); (case hp => (first | (apply pk_cons; (case hc => rfl); (case hs => rfl); (case h => (first | with_reducible exact pk_nil | fail)); (case he => (first | ((repeat (first | with_reducible exact ap_nil | apply ap_cons)); done) | fail))) | fail)); (case hb => rfl); (case hd => rfl); intro b) | fail)
    refine v_call (μ2 := []) rfl (insert_s (l := l) (i := l.countP (· < n)) (x := n) (spare := spare) hok.1 (by omega) hcP h1 h2 (by rw [h3]; omega)) (by rw [List.append_nil]; exact List.Perm.swap _ _ _) rfl ?_
    rintro r G'' μ1 - ⟨rfl, hg⟩
    refine v_freeze (ν := μ1) (μ := []) ?_
    intro G1 hle hG
    repeat' (first | apply v_nil | (apply v_pure; (case hop => first | (apply p_assign <;> rfl) | fail); (case hd => rfl)) | fail)
    refine v_ret [] (outsA2 rfl rfl rfl) (by repeat (first | exact List.Sublist.refl _ | fail)) ?_
    rw [e]
    refine ⟨rfl, _, ?_, Grow.ints (l := l.take (l.countP (· < n)) ++ [n] ++ l.drop (l.countP (· < n))) (by
      have : (l.take (l.countP (· < n)) ++ [n] ++ l.drop (l.countP (· < n))).length = l.length + 1 := by simp; omega
      rw [this]; exact hg) hG ?_⟩
    · rw [decide_eq_true (by simp; omega)]
    · intro x hx
      simp only [List.mem_append, List.mem_singleton] at hx
      rcases hx with (hx | hx) | hx
      · exact hwf x (List.mem_of_mem_take hx)
      · rw [hx]; exact hn
      · exact hwf x (List.mem_of_mem_drop hx)
  · have e : changedL l kind n = l.take (l.countP (· < n)) ++ l.drop (l.countP (· < n) + 1) := by
      unfold changedL
      rw [if_neg (by rintro ⟨h1, _⟩; omega), if_pos]
      exact ⟨by assumption, by assumption, by omega⟩
    refine v_call (μ1 := []) (μ2 := _) rfl (clone_s hs (by omega)) (List.Perm.refl _) rfl ?_
    rintro r G' μ1 - ⟨rfl, hlen, ⟨-, h0, -⟩ | ⟨b, cap, spare, rfl, rfl, h1, h2, h3⟩⟩
    · have := hok.1; omega
    have hcP : l.countP (· < n) < l.length := countP_lt (by assumption)
    have hn1 : 1 < l.length := by omega
    repeat' (first | (apply v_pure; (case hop => first | (apply p_move <;> rfl) | (apply p_add; (case hx => rfl); (case hy => rfl); (case h => omega)) | fail); (case hd => rfl)) | fail)
    refine v_call (μ2 := []) rfl (delete_s (l := l) (i := l.countP (· < n)) (spare := spare) hcP h1 h2 (by rw [h3]; omega)) (List.Perm.refl _) rfl ?_
    rintro r G'' μ1 - ⟨rfl, hg⟩
    refine v_freeze (ν := μ1) (μ := []) ?_
    intro G1 hle hG
    repeat' (first | apply v_nil | (apply v_pure; (case hop => first | (apply p_assign <;> rfl) | fail); (case hd => rfl)) | fail)
    refine v_ret [] (outsA2 rfl rfl rfl) (by repeat (first | exact List.Sublist.refl _ | fail)) ?_
    rw [e]
    refine ⟨rfl, _, ?_, Grow.ints (l := l.take (l.countP (· < n)) ++ l.drop (l.countP (· < n) + 1)) (by
      have : (l.take (l.countP (· < n)) ++ l.drop (l.countP (· < n) + 1)).length = l.length - 1 := by simp; omega
      rw [this]; exact hg) hG ?_⟩
    · rw [decide_eq_true (by simp; omega)]
    · intro x hx
      simp only [List.mem_append] at hx
      rcases hx with hx | hx
      · exact hwf x (List.mem_of_mem_take hx)
      · exact hwf x (List.mem_of_mem_drop hx)
end Go.Proofs.Ytgflmkhfachlcaa
/-
  conf (layer 11), the fifth part: the reference's members with a change.
-/
set_option linter.unusedSimpArgs false
set_option linter.unusedVariables false
namespace Go.Proofs.Ytgflmkhfachlcaa
open Go.Vx Go.ChangeShapes Go.WideShapes Go.ChangeAt Go.RowKit
end Go.Proofs.Ytgflmkhfachlcaa
/-
  conf (layer 11), the sixth part: both know the same change.
-/
set_option linter.unusedSimpArgs false
set_option linter.unusedVariables false
namespace Go.Proofs.Ytgflmkhfachlcaa
open Go.Vx Go.ChangeShapes Go.WideShapes Go.ChangeAt Go.RowKit
theorem MemOK.range {l : List Int} (h : MemOK l) {x : Int} (hx : x ∈ l) : 1 ≤ x ∧ x ≤ 9 := by
  obtain ⟨i, hi, rfl⟩ := List.getElem_of_mem hx
  have := h.2 i hi
  omega
end Go.Proofs.Ytgflmkhfachlcaa
/-
  conf (layer 11), the seventh part: a copy of confs.
-/
set_option linter.unusedSimpArgs false
set_option linter.unusedVariables false
namespace Go.Proofs.Ytgflmkhfachlcaa
open Go.Vx Go.ChangeShapes Go.WideShapes Go.ChangeAt Go.RowKit
/-- The cells of confs. -/
def CoCells (G : GH) (l : List Co) (css : List (List Value)) : Prop := css.length = l.length ∧ ∀ (i : Nat) x cs, l[i]? = some x → css[i]? = some cs → cs.length = 2 ∧ CoR G x cs
theorem CoCells.le {G G' : GH} {l : List Co} {css : List (List Value)} (h : CoCells G l css) (hle : GH.le G G') : CoCells G' l css :=
  ⟨h.1, fun i x cs h1 h2 => let ⟨a, b⟩ := h.2 i x cs h1 h2; ⟨a, b.le hle⟩⟩
theorem CoCells.push {G : GH} {l : List Co} {css : List (List Value)} {x : Co} {cs : List Value} (h : CoCells G l css) (h2 : cs.length = 2) (hx : CoR G x cs) : CoCells G (l ++ [x]) (css ++ [cs]) := by
  refine ⟨by simp [h.1], fun i y ds h3 h4 => ?_⟩
  by_cases hi : i < l.length
  · rw [List.getElem?_append_left hi] at h3
    rw [List.getElem?_append_left (by rw [h.1]; exact hi)] at h4
    exact h.2 i y ds h3 h4
  · rw [List.getElem?_append_right (by omega)] at h3
    rw [List.getElem?_append_right (by rw [h.1]; omega), h.1] at h4
    have : i - l.length = 0 := by
      have := (List.getElem?_eq_some_iff.1 h3).1
      simp at this; omega
    rw [this] at h3 h4
    simp at h3 h4
    subst h3; subst h4
    exact ⟨h2, hx⟩
theorem CoCells.nil {G : GH} : CoCells G [] [] := ⟨rfl, fun i x cs h => by simp at h⟩
theorem CoCells.grow {G : GH} {l : List Co} {css : List (List Value)} {v : Value} {ν : OH} (h : CoCells G l css) (hg : Grow 95 2 v l.length css.flatten ν) {G' : GH} (hle : GH.le G G') (hG : ∀ b o, (b, o) ∈ ν → G' b = some o) : Cos G' v l :=
  hg.sl hG h.1 (h.le hle).2
theorem permR7 {x y : Nat × Obj} {ν μ : OH} : (x :: (ν ++ (y :: μ))).Perm (μ ++ (x :: (ν ++ [y]))) := by
  have h1 : (x :: (ν ++ (y :: μ))) = (x :: (ν ++ [y])) ++ μ := by simp
  rw [h1]
  exact List.perm_append_comm
theorem cloneL_s {G : GH} {l : List Co} {sv : Value} (hs : Cos G sv l) (hl : l.length ≤ 1000) (hbig : ∀ c ∈ l, c.2.length ≤ 1048576) :
    Con Try.prog 65 #[sv] G [] (fun r G' μ' => ∃ css, CoCells G' l css ∧ Grow 95 2 r l.length css.flatten μ') := by
  obtain ⟨A, c, mA, mc, rfl, hlc, hcm, hsome, hcp, hc0, hc1, hmv, hwf⟩ := coOpen hs
  simp only [maxLen] at hcm
  (refine v_enter Try.func65 rfl Try.ntmps65 rfl ?_; intro B _)
  repeat' (first | apply v_seq | apply v_region | apply v_nil | apply v_block | (apply v_pure; (case hop => first | (apply p_move <;> rfl) | (apply p_assign <;> rfl) | (apply p_lenSlice <;> rfl) | fail); (case hd => rfl)) | fail)
  refine v_loop [8, 7, 6, 3] (fun us G' μ' => GH.le G G' ∧ ∃ (k : Nat) (out : Value) (css : List (List Value)), k ≤ l.length ∧ us = [Value.int .i64 (k : Int), .int .i64 l.length, .slice A l.length c, out] ∧ CoCells G' (l.take k) css ∧ Grow 95 2 out k css.flatten μ') (fun us => l.length - (headI us).toNat) rfl ⟨GH.le_refl _, 0, _, [], by omega, rfl, CoCells.nil, Grow.nil _ _⟩ ?_
  rintro us G' μ' ⟨hle, k, out, css, hk, rfl, hcc, hg⟩
  repeat' (first | apply v_seq | apply v_region | apply v_nil | apply v_skip | apply v_block | (apply v_exit; (case hp => rfl)) | (apply v_pure; (case hop => first | (apply p_move <;> rfl) | (apply p_lt <;> rfl) | (apply p_assign <;> rfl) | (apply p_indexAddrS; (case hx => rfl); (case hi => rfl); (case h0 => omega); (case h => omega); (case hA => first | (apply_assumption; omega))) | fail); (case hd => rfl)) | (apply v_cond; (case hc => rfl); all_goals (intro h; (try simp only [reduceCtorEq, dec_true, dec_false, decide_eq_true_eq, decide_eq_false_iff_not, Bool.not_eq_true', Bool.not_eq_false', Option.isNone_iff_eq_none, beq_true, beq_false, beq_iff_eq, beq_eq_false_iff_ne, ne_eq, decide_eq_decide, Bool.not_eq_true, Bool.not_eq_false, Decidable.not_not] at h); first | skip)) | (apply v_read; (case hop => (apply r_loadN; rfl; exact CellsAt.frozen ((hcp _ (by omega)).le hle); rfl)); (case hd => rfl)) | (apply v_alloc; (case hz => rfl); (case hd => rfl); intro b) | (apply v_store; (case hp => rfl); (case hx => rfl); (case hc => rfl); (case hsz => rfl); (case h1 => rfl); (case hb => (repeat (first | exact List.Mem.head _ | fail))); (case hfit => first | exact Nat.le_of_ble_eq_true rfl | fail); (case hov => (first | ((repeat (first | with_reducible exact ov_nil | apply ov_cons | fail)); done) | fail)); (case hu => repeat (first | exact Upd.here _ _ | fail))) | fail)
  · have hlt : k < l.length := by omega
    have hlt2 := hbig _ (List.getElem_mem hlt)
    refine d_start [(b, .cells ([.int .i64 (l[k]'hlt).1, .slice (mA k) (l[k]'hlt).2.length (mc k)]).toArray 95 (0, 0))] (by kernel_rfl) (by kernel_rfl) (by kernel_rfl) (by intro e he; first | (simp at he; simp [he]) | fail) ?_
    all_goals (first | (apply d_take 0; (case hi => rfl); (case hop => first | (apply PureOp.read; apply p_move <;> rfl)); (case hf => kernel_rfl); (case hr => kernel_rfl); (case hd => rfl)) | fail)
    all_goals (first | (apply d_take 1; (case hi => rfl); (case hop => first | (apply PureOp.read; apply p_fieldAddrB <;> rfl) | fail); (case hf => kernel_rfl); (case hr => kernel_rfl); (case hd => rfl)) | fail)
    all_goals (first | (apply d_take 2; (case hi => rfl); (case hop => first   | (apply r_loadNo; (case hx => rfl); (case h => (repeat (fail))); (case hd => (repeat (fail))); (case hn => rfl)) | (apply r_load1; rfl; (apply Cell.own; (case h => (repeat (first | exact List.Mem.head _ | fail))); rfl)) | (apply r_loadN; rfl; (apply CellsAt.own; (case h => (repeat (fail)))); rfl)); (case hf => kernel_rfl); (case hr => kernel_rfl); (case hd => rfl)) | fail)
    all_goals (first | (apply d_take 3; (case hi => rfl); (case hop => first | (apply PureOp.read; apply p_fieldAddrB <;> rfl) | fail); (case hf => kernel_rfl); (case hr => kernel_rfl); (case hd => rfl)) | fail)
    all_goals (first | (apply d_take 4; (case hi => rfl); (case hop => first   | (apply r_loadNo; (case hx => rfl); (case h => (repeat (fail))); (case hd => (repeat (fail))); (case hn => rfl)) | (apply r_load1; rfl; (apply Cell.own; (case h => (repeat (first | exact List.Mem.head _ | fail))); rfl)) | (apply r_loadN; rfl; (apply CellsAt.own; (case h => (repeat (fail)))); rfl)); (case hf => kernel_rfl); (case hr => kernel_rfl); (case hd => rfl)) | fail)
    all_goals (first | ((apply d_call 5 (hs := clone_s ((hmv _ hlt).mono hle) hlt2); (case hi => rfl); (case hr => kernel_rfl);  (case ha => rfl); (case hp => exact List.Perm.refl _); (case hd => rfl); (case hν' => intro e he; simp at he; simp [he]); rintro r1 _ ν1 _ ⟨rfl, hg1⟩; obtain ⟨A1, c1, rfl, -, -⟩ := hg1.shape)) | fail)
    all_goals (first | (apply d_take 6; (case hi => rfl); (case hop => first | (apply PureOp.read; apply p_build; (case hz => rfl); (case hv => (simp only [List.map_cons, List.map_nil]; repeat (first | with_reducible exact evs_nil | (apply evs_cons; (case h1 => rfl))))); (case hb => (apply bldL; repeat (first | exact bld_nil | (apply bld_cons; (case hpf => rfl); (case hc => rfl); (case hs => rfl); (case hl => rfl); (case ho => (first | ((repeat (first | with_reducible exact ov_nil | apply ov_cons | fail)); done) | fail)))))))); (case hf => kernel_rfl); (case hr => kernel_rfl); (case hd => rfl)) | fail)
    all_goals (first | (apply d_buildSlice 7; (case hi => rfl); (case hr => kernel_rfl); (case hT => infer_instance); (case hL => infer_instance); (case hz => rfl); (case hl => rfl); (case hv => (simp only [List.map_cons, List.map_nil]; repeat (first | with_reducible exact evs_nil | (apply evs_cons; (case h1 => rfl))))); (case hp => (first | (apply pk_cons; (case hc => rfl); (case hs => rfl); (case h => (first | with_reducible exact pk_nil | fail)); (case he => (first | ((repeat (first | with_reducible exact ap_nil | apply ap_cons)); done) | fail))) | fail)); (case hb => rfl); (case hd => rfl); (case hν => intro e he; first | (simp at he; simp [he]) | fail); intro b7) | fail)
    all_goals (first | (apply d_append 8 (hg := hg) (q' := 1) (us := [.int .i64 (l[k]'hlt).1, .slice A1 _ c1]) (μr := (b7, _) :: (ν1 ++ [(b, _)])) (hp := permR7) (hsrc := Src.own (List.Mem.head _) rfl); (case hi => rfl); (case hr => kernel_rfl); (case hT => infer_instance); (case hL => infer_instance); (case hzs => rfl); (case hsz => omega); (case hs => rfl); (case hx => rfl); (case hb => omega); (case hb' => simp only [maxLen]; omega); (case hd => rfl); (case h1 => first | rfl | fail); (case hν => intro e he; first | (simp at he; simp [he]) | fail); intro out' ν' hg') | fail)
    all_goals (first | (apply d_take 9; (case hi => rfl); (case hop => first | (apply PureOp.read; apply p_assign <;> rfl)); (case hf => kernel_rfl); (case hr => kernel_rfl); (case hd => rfl)) | fail)
    all_goals (apply d_done; (case hr => kernel_rfl))
    repeat' (first | apply v_region | apply v_nil | apply v_blk | (apply v_pure; (case hop => first | (apply p_move <;> rfl) | (apply p_add; (case hx => rfl); (case hy => rfl); (case h => omega)) | fail); (case hd => rfl)) | fail)
    refine v_freezeP ν1 ν' [(b7, _), (b, _)] (by apply perm_of_count; intro p; simp only [List.countP_append, List.countP_cons, List.countP_nil, Nat.zero_add, Nat.add_zero]; try ac_rfl) ?_
    intro G1 hle1 hG1
    refine v_again rfl ⟨GH.le_trans hle hle1, k + 1, out', css ++ [[.int .i64 (l[k]'hlt).1, .slice A1 (l[k]'hlt).2.length c1]], by omega, rfl, ?_, ?_⟩ (by simp [headI]; omega)
    · rw [List.take_succ_eq_append_getElem hlt]
      obtain ⟨_, _, _, _, _, _, _, hw⟩ := (hmv _ hlt).openInt
      exact (hcc.le hle1).push rfl ⟨_, rfl, hwf _ hlt, hg1.ints hG1 hw⟩
    · simpa using hg'
  · refine v_ret μ' (outsA1 rfl rfl) (List.Sublist.refl _) ?_
    obtain rfl : k = l.length := by omega
    rw [List.take_length] at hcc
    exact ⟨css, hcc, hg⟩
end Go.Proofs.Ytgflmkhfachlcaa
/-
  conf (layer 11), the eighth part: confs with a change.
-/
set_option linter.unusedSimpArgs false
set_option linter.unusedVariables false
namespace Go.Proofs.Ytgflmkhfachlcaa
open Go.Vx Go.ChangeShapes Go.WideShapes Go.ChangeAt Go.RowKit
def lastC (l : List Co) : Co := l.getD (l.length - 1) (0, [])
theorem lastC_eq {l : List Co} (h : 0 < l.length) : lastC l = l[l.length - 1]'(by omega) := by
  rw [lastC, List.getD_eq_getElem?_getD, List.getElem?_eq_getElem (by omega)]; rfl
def fromOf (l : List Co) (x : Int) : Int := max (x + 4) (lastC l).1
def changeL (l : List Co) (x kind n : Int) : List Co := (if fromOf l x = (lastC l).1 then l.take (l.length - 1) else l) ++ [(fromOf l x, changedL (lastC l).2 kind n)]
open Classical in
noncomputable def changeR (l : List Co) (x kind n : Int) : List Co × Int :=
  if ¬ ConfOK l then ([], 3) else if x < 1 ∨ 4294967292 < x then ([], 6) else if (changedL (lastC l).2 kind n).length = 0 then ([], 16) else (changeL l x kind n, 0)
theorem CoCells.take {G : GH} {l : List Co} {css : List (List Value)} (h : CoCells G l css) (k : Nat) : CoCells G (l.take k) (css.take k) :=
  ⟨by simp [h.1], fun i x cs h1 h2 => by
    rw [List.getElem?_take] at h1 h2
    split at h1
    · rename_i hi
      rw [if_pos hi] at h2
      exact h.2 i x cs h1 h2
    · cases h1⟩
theorem flatten_take2 : ∀ (css : List (List Value)) (k : Nat), (∀ cs ∈ css, cs.length = 2) → css.flatten.take (k * 2) = (css.take k).flatten
  | [], k, _ => by simp
  | cs :: css, 0, _ => by simp
  | cs :: css, k + 1, h => by
    have h1 : cs.length = 2 := h cs (by simp)
    rw [List.take_succ_cons, List.flatten_cons, List.flatten_cons, List.take_append, h1, List.take_of_length_le (by omega), show (k + 1) * 2 - 2 = k * 2 by omega, flatten_take2 css k fun c hc => h c (by simp [hc])]
theorem CoCells.two {G : GH} {l : List Co} {css : List (List Value)} (h : CoCells G l css) : ∀ cs ∈ css, cs.length = 2 := fun cs hcs => by
  obtain ⟨i, hi, rfl⟩ := List.getElem_of_mem hcs
  have h1 := h.1
  exact (h.2 i _ _ (List.getElem?_eq_getElem (by omega)) (List.getElem?_eq_getElem hi)).1
theorem CoCells.flen {G : GH} {l : List Co} {css : List (List Value)} (h : CoCells G l css) : css.flatten.length = l.length * 2 := by
  rw [← h.1]
  have := h.two
  clear h
  induction css with
  | nil => simp
  | cons cs css ih =>
    rw [List.flatten_cons, List.length_append, ih fun c hc => this c (by simp [hc]), this cs (by simp), List.length_cons]; omega
theorem change_s {G : GH} {l : List Co} {sv : Value} (x kind n : Int) (hs : Cos G sv l) (hl : l.length ≤ 1000) (hbig : ∀ c ∈ l, c.2.length ≤ 1048000) (hn : (Lit.int .i64 n).wf = true) :
    Con Try.prog 51 #[sv, .int .i64 x, .int .i64 kind, .int .i64 n] G [] (fun r G' μ' => μ' = [] ∧ ∃ v, r = .tuple #[v, .int .i64 (changeR l x kind n).2] ∧ Cos G' v (changeR l x kind n).1) := by
  have hclone := fun (G' : GH) (hle : GH.le G G') => cloneL_s (hs.le hle) hl (fun c hc => by have := hbig c hc; omega)
  have hck := check_s hs
  obtain ⟨A, c, mA, mc, rfl, hlc, hcm, hsome, hcp, hc0, hc1, hmv, hwf⟩ := coOpen hs
  simp only [maxLen] at hcm
  by_cases hok : ConfOK l
  · rw [if_pos hok] at hck
    have h0 := hok.1.1
    have hlt : l.length - 1 < l.length := by omega
    have hlast := lastC_eq h0
    obtain ⟨lz, mz, hz⟩ : ∃ lz mz, lastC l = (lz, mz) := ⟨_, _, rfl⟩
    have hz' : l[l.length - 1]'hlt = (lz, mz) := by rw [← hlast, hz]
    obtain ⟨hmem, hfrom, -⟩ := hok.2 _ hlt
    have hfw := hwf _ hlt
    have hcP0 := hcp _ hlt
    have hmz := hmv _ hlt
    have hbz := hbig _ (List.getElem_mem hlt)
    rw [hz'] at hmem hfrom hfw hcP0 hmz hbz
    simp only at hmem hfrom hfw hcP0 hmz hbz
    have hch := changed_s kind n hmz hmem hbz hn
    have e1 : (((l.length : Nat) : Int) - 1).toNat = l.length - 1 := by omega
    have hcP1 : CellsG G ((adr A).add ((((l.length : Nat) : Int) - 1).toNat * 2)) [.int .i64 lz, .slice (mA (l.length - 1)) mz.length (mc (l.length - 1))] := by rw [e1]; exact hcP0
    have hwf' := bounds_i64 hfw
    (refine v_enter Try.func51 rfl Try.ntmps51 rfl ?_; intro B _)
    repeat' (first | apply v_seq | apply v_region | apply v_nil | apply v_skip | (apply v_take; (case hg => rfl)) | (apply v_pass; (case hg => rfl); (case hn => rfl); (case hd => rfl)) | (apply v_pure; (case hop => first | (apply p_move <;> rfl) | (apply p_nes <;> rfl) | (apply p_lt <;> rfl) | (apply p_gt <;> rfl) | (apply p_assign <;> rfl) | (apply p_pickT <;> rfl) | (apply p_pickF <;> rfl) | (apply p_lenSlice <;> rfl) | (apply p_fieldAddrB <;> rfl) | (apply p_sub; (case hx => rfl); (case hy => rfl); (case h => omega)) | (apply p_indexAddrS; (case hx => rfl); (case hi => rfl); (case h0 => omega); (case h => omega); (case hA => first | (apply_assumption; omega))) | fail); (case hd => rfl)) | (apply v_condT; (case hc => rfl)) | (apply v_condF; (case hc => rfl)) | (apply v_cond; (case hc => rfl); all_goals (intro h; (try simp only [reduceCtorEq, dec_true, dec_false, decide_eq_true_eq, decide_eq_false_iff_not, Bool.not_eq_true', Bool.not_eq_false', Option.isNone_iff_eq_none, beq_true, beq_false, beq_iff_eq, beq_eq_false_iff_ne, ne_eq, decide_eq_decide, Bool.not_eq_true, Bool.not_eq_false, Decidable.not_not] at h); first | skip)) | (apply v_guardB; (case h1 => rfl); (case h2 => rfl); all_goals (intro h; (try simp only [reduceCtorEq, dec_true, dec_false, decide_eq_true_eq, decide_eq_false_iff_not, Bool.not_eq_true', Bool.not_eq_false', Option.isNone_iff_eq_none, beq_true, beq_false, beq_iff_eq, beq_eq_false_iff_ne, ne_eq, decide_eq_decide, Bool.not_eq_true, Bool.not_eq_false, Decidable.not_not] at h); first | skip)) | (apply v_callJ (hs := hck); (case ha => rfl); (case hd => rfl)) | (apply v_read; (case hop => (apply r_loadN; rfl; exact CellsAt.frozen hcP1; rfl)); (case hd => rfl)) | (apply v_read; (case hop => first | (apply r_load1; rfl; (apply Cell.own; (case h => (repeat (first | exact List.Mem.head _ | fail))); rfl)) | fail); (case hd => rfl)) | (apply v_alloc; (case hz => rfl); (case hd => rfl); intro b) | (apply v_store; (case hp => rfl); (case hx => rfl); (case hc => rfl); (case hsz => rfl); (case h1 => rfl); (case hb => (repeat (first | exact List.Mem.head _ | fail))); (case hfit => first | exact Nat.le_of_ble_eq_true rfl | fail); (case hov => (first | ((repeat (first | with_reducible exact ov_nil | apply ov_cons | fail)); done) | fail)); (case hu => repeat (first | exact Upd.here _ _ | fail))) | fail)
    all_goals try
      (refine v_ret [] (outsA2 rfl rfl rfl) (by repeat (first | exact List.Sublist.refl _ | fail)) ?_
       have e : changeR l x kind n = ([], 6) := by
         unfold changeR
         rw [if_neg (by simpa using hok), if_pos (by omega)]
       rw [e]
       exact ⟨rfl, _, rfl, Sl.nil⟩)
    refine v_call (μ1 := []) (μ2 := _) rfl hch (List.Perm.refl _) rfl ?_
    rintro r G' μ1 hle ⟨rfl, mv, rfl, hmv'⟩
    by_cases hno : 0 < (changedL mz kind n).length
    · rw [decide_eq_true hno]
      repeat' (first | apply v_seq | apply v_region | apply v_nil | apply v_skip | (apply v_pure; (case hop => first | (apply p_move <;> rfl) | (apply p_assign <;> rfl) | (apply p_not <;> rfl) | (apply p_fieldAddrB <;> rfl) | (apply p_extract0 <;> rfl) | (apply p_extract1 <;> rfl) | (apply p_add; (case hx => rfl); (case hy => rfl); (case h => omega)) | (apply p_max <;> rfl) | fail); (case hd => rfl)) | (apply v_condF; (case hc => rfl)) | (apply v_read; (case hop => first | (apply r_load1; rfl; (apply Cell.own; (case h => (repeat (first | exact List.Mem.head _ | fail))); rfl)) | fail); (case hd => rfl)) | fail)
      refine v_call (μ1 := []) (μ2 := _) rfl (hclone G' hle) (List.Perm.refl _) rfl ?_
      rintro r G2 ν1 hle2 ⟨css, hcc, hg⟩
      have hG02 := GH.le_trans hle hle2
      obtain ⟨A2, c2, rfl, h2a, h2b⟩ := hg.shape
      simp only [maxLen] at h2b
      obtain ⟨mA', mc', rfl, hmc1, hmc2, _⟩ := hmv'.openInt
      have hF : fromOf l x = max (x + 4) lz := by rw [fromOf, hz]
      have hR : changeR l x kind n = (changeL l x kind n, 0) := by
        unfold changeR
        rw [if_neg (by simpa using hok), if_neg (by omega), hz, if_neg (by simp only; omega)]
      have hwF : (Lit.int .i64 (max (x + 4) lz)).wf = true := WalkArith.wf_i64 (by omega)
      repeat' (first | apply v_seq | apply v_region | apply v_nil | apply v_skip | (apply v_pure; (case hop => first | (apply p_move <;> rfl) | (apply p_eq <;> rfl) | (apply p_assign <;> rfl) | (apply p_lenSlice <;> rfl) | (apply p_fieldAddrB <;> rfl) | (apply p_sub; (case hx => rfl); (case hy => rfl); (case h => omega)) | (apply p_build; (case hz => rfl); (case hv => (simp only [List.map_cons, List.map_nil]; repeat (first | with_reducible exact evs_nil | (apply evs_cons; (case h1 => rfl))))); (case hb => (apply bldL; repeat (first | exact bld_nil | (apply bld_cons; (case hpf => rfl); (case hc => rfl); (case hs => rfl); (case hl => rfl); (case ho => (first | ((repeat (first | with_reducible exact ov_nil | apply ov_cons | fail)); done) | fail))))))) | (apply p_slice3; (case hx => rfl); (case hh => rfl); (case hq => rfl); all_goals omega) | fail); (case hd => rfl)) | (apply v_cond; (case hc => rfl); all_goals (intro h; (try simp only [reduceCtorEq, dec_true, dec_false, decide_eq_true_eq, decide_eq_false_iff_not, Bool.not_eq_true', Bool.not_eq_false', Option.isNone_iff_eq_none, beq_true, beq_false, beq_iff_eq, beq_eq_false_iff_ne, ne_eq, decide_eq_decide, Bool.not_eq_true, Bool.not_eq_false, Decidable.not_not] at h); first | skip)) | (apply v_read; (case hop => first | (apply r_load1; rfl; (apply Cell.own; (case h => (repeat (first | exact List.Mem.head _ | apply List.mem_append_right))); rfl)) | fail); (case hd => rfl)) | (apply v_buildSlice; (case hz => rfl); (case hi => rfl); (case hv => (simp only [List.map_cons, List.map_nil]; repeat (first | with_reducible exact evs_nil | (apply evs_cons; (case h1 => rfl))))); (case hp => (first | (apply pk_cons; (case hc => rfl); (case hs => rfl); (case h => (first | with_reducible exact pk_nil | fail)); (case he => (first | ((repeat (first | with_reducible exact ap_nil | apply ap_cons)); done) | fail))) | fail)); (case hb => rfl); (case hd => rfl); intro b) | fail)
      · have e4 : changeL l x kind n = l.take (l.length - 1) ++ [(max (x + 4) lz, changedL mz kind n)] := by
          rw [changeL, hF, hz, if_pos (by assumption)]
        have hlen : 1 < l.length := by
          apply Classical.byContradiction
          intro hc
          have h1 : l[l.length - 1]'hlt = l[0] := by congr 1; omega
          have h2 := hok.1.2
          rw [← h1, hz'] at h2
          simp only at h2
          omega
        refine v_frz ν1 (by repeat (first | exact PickA.here _ | apply PickA.cons | fail)) ?_
        intro G3 hle3 hG3
        obtain ⟨A3, c3, he, _, _, hcl⟩ := hg.cells hG3
        injection he with ea _ ec
        subst ea; subst ec
        obtain ⟨a3, rfl, hcl3⟩ := hcl (by omega)
        have hct := hcl3.take ((l.length - 1) * 2)
        rw [flatten_take2 _ _ hcc.two] at hct
        have hcct := (hcc.take (l.length - 1)).le hle3
        have htl : (l.take (l.length - 1)).length = l.length - 1 := by simp
        rw [e1]
        refine v_appendFull (e := 95) (sz := 2) (m := l.length - 1) (m' := 1) (us := [.int .i64 (max (x + 4) lz), .slice mA' (changedL mz kind n).length mc']) rfl rfl rfl (Src.frozen hct (by rw [hcct.flen, htl])) (Src.own (List.Mem.head _) rfl) (by omega) (by omega) (by omega) (by simp only [maxLen]; omega) rfl ?_
        intro v' ν' hg'
        refine v_frz ν' (by repeat (first | exact PickA.here _ | fail)) ?_
        intro G4 hle4 hG4
        repeat' (first | apply v_nil | (apply v_pure; (case hop => first | (apply p_assign <;> rfl) | fail); (case hd => rfl)) | fail)
        refine v_ret [] (outsA2 rfl rfl rfl) (by repeat (first | exact List.nil_sublist _ | fail)) ?_
        rw [hR]
        refine ⟨rfl, _, rfl, ?_⟩
        have hfin := (hcct.le hle4).push (x := (max (x + 4) lz, changedL mz kind n)) (cs := [.int .i64 (max (x + 4) lz), .slice mA' (changedL mz kind n).length mc']) rfl ⟨_, rfl, hwF, hmv'.mono (GH.le_trans hle2 (GH.le_trans hle3 hle4))⟩
        simp only [e4]
        refine hfin.grow ?_ (GH.le_refl _) hG4
        rw [List.length_append, htl]
        simpa using hg'
      · have e4 : changeL l x kind n = l ++ [(max (x + 4) lz, changedL mz kind n)] := by
          rw [changeL, hF, hz, if_neg (by assumption)]
        refine v_append (e := 95) (sz := 2) (m' := 1) (us := [.int .i64 (max (x + 4) lz), .slice mA' (changedL mz kind n).length mc']) rfl (by omega) rfl rfl hg (PickA.perm (by repeat (first | exact PickA.here _ | apply PickA.cons | fail))) (Src.own (List.Mem.head _) rfl) rfl (by omega) (by simp only [maxLen]; omega) rfl ?_
        intro v' ν' hg'
        refine v_frz ν' (by repeat (first | exact PickA.here _ | fail)) ?_
        intro G4 hle4 hG4
        repeat' (first | apply v_nil | (apply v_pure; (case hop => first | (apply p_assign <;> rfl) | fail); (case hd => rfl)) | fail)
        refine v_ret [] (outsA2 rfl rfl rfl) (by repeat (first | exact List.nil_sublist _ | fail)) ?_
        rw [hR]
        refine ⟨rfl, _, rfl, ?_⟩
        have hfin := (hcc.le hle4).push (x := (max (x + 4) lz, changedL mz kind n)) (cs := [.int .i64 (max (x + 4) lz), .slice mA' (changedL mz kind n).length mc']) rfl ⟨_, rfl, hwF, hmv'.mono (GH.le_trans hle2 hle4)⟩
        simp only [e4]
        refine hfin.grow ?_ (GH.le_refl _) hG4
        simpa using hg'
    · rw [decide_eq_false hno]
      repeat' (first | apply v_seq | apply v_region | apply v_nil | (apply v_pure; (case hop => first | (apply p_move <;> rfl) | (apply p_assign <;> rfl) | (apply p_not <;> rfl) | (apply p_extract0 <;> rfl) | (apply p_extract1 <;> rfl) | fail); (case hd => rfl)) | (apply v_condT; (case hc => rfl)) | fail)
      refine v_ret [] (outsA2 rfl rfl rfl) (by repeat (first | exact List.nil_sublist _ | fail)) ?_
      have e : changeR l x kind n = ([], 16) := by
        unfold changeR
        rw [if_neg (by simpa using hok), if_neg (by omega), hz, if_pos (by simp only; omega)]
      rw [e]
      exact ⟨rfl, _, rfl, Sl.nil⟩
  · rw [if_neg hok] at hck
    (refine v_enter Try.func51 rfl Try.ntmps51 rfl ?_; intro B _)
    repeat' (first | apply v_seq | apply v_region | apply v_nil | (apply v_pure; (case hop => first | (apply p_move <;> rfl) | (apply p_ne <;> rfl) | (apply p_assign <;> rfl) | fail); (case hd => rfl)) | (apply v_cond; (case hc => rfl); all_goals (intro h; (try simp only [reduceCtorEq, dec_true, dec_false, decide_eq_true_eq, decide_eq_false_iff_not, Bool.not_eq_true', Bool.not_eq_false', Option.isNone_iff_eq_none, beq_true, beq_false, beq_iff_eq, beq_eq_false_iff_ne, ne_eq, decide_eq_decide, Bool.not_eq_true, Bool.not_eq_false, Decidable.not_not] at h); first | (exfalso; omega) | skip)) | (apply v_callJ (hs := hck); (case ha => rfl); (case hd => rfl)) | fail)
    refine v_ret [] (outsA2 rfl rfl rfl) (by repeat (first | exact List.Sublist.refl _ | fail)) ?_
    have e : changeR l x kind n = ([], 3) := by
      unfold changeR
      rw [if_pos hok]
    rw [e]
    exact ⟨rfl, _, rfl, Sl.nil⟩
end Go.Proofs.Ytgflmkhfachlcaa
/-
  conf (layer 11), the ninth part: trimmed confs; the reference's confs with a change.
-/
set_option linter.unusedSimpArgs false
set_option linter.unusedVariables false
namespace Go.Proofs.Ytgflmkhfachlcaa
open Go.Vx Go.ChangeShapes Go.WideShapes Go.ChangeAt Go.RowKit
theorem CoCells.cons {G : GH} {y : Co} {l : List Co} {cs : List Value} {css : List (List Value)} (h : CoCells G (y :: l) (cs :: css)) : cs.length = 2 ∧ CoR G y cs ∧ CoCells G l css :=
  ⟨(h.2 0 y cs rfl rfl).1, (h.2 0 y cs rfl rfl).2, by have := h.1; simpa using this, fun i x ds h1 h2 => h.2 (i + 1) x ds (by simpa using h1) (by simpa using h2)⟩
theorem CoCells.mk {G : GH} {y : Co} {l : List Co} {cs : List Value} {css : List (List Value)} (h1 : cs.length = 2) (h2 : CoR G y cs) (h3 : CoCells G l css) : CoCells G (y :: l) (cs :: css) :=
  ⟨by simp [h3.1], fun i x ds h4 h5 => by
    cases i with
    | zero => simp at h4 h5; subst h4; subst h5; exact ⟨h1, h2⟩
    | succ i => exact h3.2 i x ds (by simpa using h4) (by simpa using h5)⟩
end Go.Proofs.Ytgflmkhfachlcaa
/-
  conf (layer 11), the tenth part: the plain laws of changed and trimmed confs.
-/
set_option linter.unusedSimpArgs false
set_option linter.unusedVariables false
namespace Go.Proofs.Ytgflmkhfachlcaa
open Go.Vx Go.ChangeShapes Go.WideShapes Go.ChangeAt Go.RowKit
theorem memOK_of {m : List Int} (h0 : 0 < m.length) (hs : m.Pairwise (· < ·)) (hr : ∀ x ∈ m, 1 ≤ x ∧ x ≤ 9) : MemOK m := by
  refine ⟨h0, fun k hk => ?_⟩
  obtain ⟨h1, h2⟩ := hr _ (List.getElem_mem hk)
  refine ⟨h1, h2, fun h => ?_⟩
  rw [List.pairwise_iff_getElem] at hs
  exact hs (k - 1) k (by omega) hk (by omega)
theorem ConfOK.rises {l : List Co} (h : ConfOK l) : l.Pairwise (fun a b => a.1 < b.1) := by
  rw [List.pairwise_iff_getElem]
  have key : ∀ (d i : Nat) (hi : i + d + 1 < l.length), l[i].1 < l[i + d + 1].1 := by
    intro d
    induction d with
    | zero =>
      intro i hi
      have := (h.2 (i + 1) (by omega)).2.2 (by omega)
      simpa using this
    | succ d ih =>
      intro i hi
      have h1 := ih i (by omega)
      have h2 := (h.2 (i + (d + 1) + 1) hi).2.2 (by omega)
      have h3 : l[i + (d + 1) + 1 - 1] = l[i + d + 1] := by congr 1
      rw [h3] at h2
      omega
  intro i j hi hj hij
  have := key (j - i - 1) i (by omega)
  have h3 : l[i + (j - i - 1) + 1]'(by omega) = l[j] := by congr 1; omega
  rw [h3] at this
  exact this
theorem ConfOK.of {l : List Co} (h0 : ∃ h : 0 < l.length, l[0].1 = 1) (hr : l.Pairwise (fun a b => a.1 < b.1)) (hm : ∀ c ∈ l, MemOK c.2 ∧ c.1 ≤ 4294967296) : ConfOK l := by
  refine ⟨h0, fun i hi => ?_⟩
  obtain ⟨h1, h2⟩ := hm _ (List.getElem_mem hi)
  refine ⟨h1, h2, fun h => ?_⟩
  rw [List.pairwise_iff_getElem] at hr
  exact hr (i - 1) i (by omega) hi (by omega)
theorem split_last {l : List Co} (h : 0 < l.length) : l = l.take (l.length - 1) ++ [lastC l] := by
  have h1 : l.take (l.length - 1 + 1) = l := by rw [List.take_of_length_le (by omega)]
  conv => lhs; rw [← h1, List.take_succ_eq_append_getElem (by omega)]
  rw [lastC_eq h]
theorem ConfOK.below {l : List Co} (h : ConfOK l) : ∀ c ∈ l.take (l.length - 1), c.1 < (lastC l).1 := by
  have hr := h.rises
  rw [split_last h.1.1, List.pairwise_append] at hr
  exact fun c hc => hr.2.2 c hc _ (by simp)
/-! ### Trimmed -/
end Go.Proofs.Ytgflmkhfachlcaa
/-
  conf (layer 11), the eleventh part: the example; the arguments.
-/
set_option linter.unusedSimpArgs false
set_option linter.unusedVariables false
namespace Go.Proofs.Ytgflmkhfachlcaa
open Go.Vx Go.ChangeShapes Go.WideShapes Go.ChangeAt Go.RowKit
def exConf : List Co := [(1, [1, 2, 3])]
theorem exConf_ok : ConfOK exConf :=
  ConfOK.of ⟨by decide, rfl⟩ (by simp [exConf]) (fun c hc => by simp [exConf] at hc; subst hc; exact ⟨memOK_of (by decide) (by decide) (by decide), by decide⟩)
def exL : List Co := [(1, [1, 2, 3]), (9, [1, 2, 3, 4])]
theorem ex_change : changeR exConf 5 7 4 = (exL, 0) := by
  unfold changeR
  rw [if_neg (by simpa using exConf_ok), if_neg (by decide), if_neg (by decide)]
  rfl
theorem awake11_s (G : GH) : Con Try.prog 35 #[] G [] (Just (.bool true) G) := by
  apply Con.just
  (refine v_enter Try.func35 rfl Try.ntmps35 rfl ?_; intro B _)
  repeat' (first | apply v_seq | apply v_region | apply v_nil | (apply v_pure; (case hop => first | (apply p_assign <;> rfl) | (apply p_build; (case hz => rfl); (case hv => (simp only [List.map_cons, List.map_nil]; repeat (first | with_reducible exact evs_nil | (apply evs_cons; (case h1 => rfl))))); (case hb => (apply bldL; repeat (first | exact bld_nil | (apply bld_cons; (case hpf => rfl); (case hc => rfl); (case hs => rfl); (case hl => rfl); (case ho => (first | ((repeat (first | with_reducible exact ov_nil | apply ov_cons | fail)); done) | fail))))))) | fail); (case hd => rfl)) | (apply v_buildSlice; (case hz => rfl); (case hi => rfl); (case hv => (simp only [List.map_cons, List.map_nil]; repeat (first | with_reducible exact evs_nil | (apply evs_cons; (case h1 => rfl))))); (case hp => (first | (apply pk_cons; (case hc => rfl); (case hs => rfl); (case h => (first | with_reducible exact pk_nil | (apply pk_cons; (case hc => rfl); (case hs => rfl); (case h => (first | (apply pk_cons; (case hc => rfl); (case hs => rfl); (case h => (first | with_reducible exact pk_nil | fail)); (case he => (first | ((repeat (first | with_reducible exact ap_nil | apply ap_cons)); done) | fail))) | fail)); (case he => (first | ((repeat (first | with_reducible exact ap_nil | apply ap_cons)); done) | fail))) | fail)); (case he => (first | ((repeat (first | with_reducible exact ap_nil | apply ap_cons)); done) | fail))) | fail)); (case hb => rfl); (case hd => rfl); intro b) | fail)
  rename_i b0
  refine v_frzP [(b0, _), (b, _)] (r := []) (PickA.perm' (List.Perm.swap _ _ _)) ?_
  intro G1 hle1 hG1
  have hm : Sl G1 1 (IntR .i64) (.slice (some ⟨b0, 0, none⟩) 3 3) [1, 2, 3] := Sl.ofInts (l := [1, 2, 3]) rfl (hG1 b0 _ (List.Mem.head _)) (by decide) (by decide)
  have hcs : Cos G1 (.slice (some ⟨b, 0, none⟩) 1 1) exConf := CoCells.grow (G := G1) (css := [[.int .i64 1, .slice (some ⟨b0, 0, none⟩) 3 3]]) (CoCells.nil.push (x := (1, [1, 2, 3])) rfl ⟨_, rfl, by decide, hm⟩) (Grow.lit rfl (by decide)) (GH.le_refl _) (fun c o h => hG1 c o (List.Mem.tail _ h))
  refine v_call (μ1 := []) (μ2 := []) rfl (change_s 5 7 4 hcs (by decide) (by decide) (by decide)) (List.Perm.refl _) rfl ?_
  rw [ex_change]
  simp only
  rintro r G2 μ1 hle2 ⟨rfl, v, rfl, hv⟩
  obtain ⟨A, c, mA, mc, rfl, hlc, hcm, hsome, hcp, hc0, hc1, hmv, hwf⟩ := coOpen hv
  have h1 : GH.cell? G2 (((adr A).add ((1 : Int).toNat * 2)).add 0) = some (.int .i64 9) := hc0 1 (by decide)
  have h2 : GH.cell? G2 (((adr A).add ((1 : Int).toNat * 2)).add 1) = some (.slice (mA 1) 4 (mc 1)) := hc1 1 (by decide)
  have h3 : exL.length = 2 := rfl
  have hA := hsome (by decide)
  simp only [maxLen] at hcm
  repeat' (first | apply v_seq | apply v_region | apply v_nil | (apply v_take; (case hg => rfl)) | (apply v_pure; (case hop => first | (apply p_move <;> rfl) | (apply p_eqs <;> rfl) | (apply p_assign <;> rfl) | (apply p_pickT <;> rfl) | (apply p_lenSlice <;> rfl) | (apply p_fieldAddrB <;> rfl) | (apply p_extract0 <;> rfl) | (apply p_extract1 <;> rfl) | (apply p_indexAddrS; (case hx => rfl); (case hi => rfl); (case h0 => omega); (case h => omega); (case hA => first | assumption | fail)) | fail); (case hd => rfl)) | (apply v_read; (case hop => first | (apply r_load1; rfl; exact Cell.frozen h1) | (apply r_load1; rfl; exact Cell.frozen h2)); (case hd => rfl)) | fail)
  refine v_ret [] (outsA1 rfl rfl) (by repeat (first | exact List.Sublist.refl _ | fail)) ?_
  exact ⟨rfl, rfl⟩
end Go.Proofs.Ytgflmkhfachlcaa
/-
  The law ConfMajorities.
-/
set_option linter.unusedSimpArgs false
set_option linter.unusedVariables false
namespace Go.Proofs.Ytgflmkhfachlcaa
open Go.Vx Go.ChangeShapes Go.WideShapes Go.ChangeAt Go.RowKit
set_option maxRecDepth 100000 in
theorem arg_t22 {H : Type} {enc : TypeId × Value → H} {W : World} {base : Nat} {v : Value} {d : DataW H} {p : List MemPlace} (hv : Value.okWide Try.prog W .any base 22 v) (h : DataW.Trod enc Try.prog W 0 (fun _ => true) true 22 v d p) : ∃ l, Sl (ghost W) 1 (IntR .i64) v l :=
  arg_slice Try.underlying22 (by kernel_rfl) (el_int Try.underlying3) hv h
def comK (l a b : List Int) (k : Nat) : Bool := (l.take k).any fun x => inB a x && inB b x
theorem confMajorities_law {W : World} {v0 v1 v2 : Value} (g0 : ∃ l, Sl (ghost W) 1 (IntR .i64) v0 l) (g1 : ∃ l, Sl (ghost W) 1 (IntR .i64) v1 l) (g2 : ∃ l, Sl (ghost W) 1 (IntR .i64) v2 l) : LawCon Try.prog 8 #[v0, v1, v2] W := by
  obtain ⟨l, hl⟩ := g0
  obtain ⟨a, ha⟩ := g1
  obtain ⟨b, hb⟩ := g2
  unfold LawCon
  generalize ghost W = G at *
  have qw := awake11_s G
  have q1 := fun h => maj_s (of := a) hl ha h
  have q2 := fun h => maj_s (of := b) hl hb h
  have r1 := fun h => refMaj_s (of := a) hl ha h
  have r2 := fun h => refMaj_s (of := b) hl hb h
  have ia := fun x => in_s x ha
  have ib := fun x => in_s x hb
  obtain ⟨A, c, rfl, hlc, hcm, hsome, hel, hwl⟩ := id hl.openInt
  obtain ⟨A1, c1, rfl, hlc1, hcm1, hsome1, hel1, hwl1⟩ := id ha.openInt
  obtain ⟨A2, c2, rfl, hlc2, hcm2, hsome2, hel2, hwl2⟩ := id hb.openInt
  simp only [maxLen] at hcm hcm1 hcm2
  have hcom : majB l a = true → majB l b = true → comK l a b l.length = true := fun h1 h2 => by
    obtain ⟨x, hx, h3, h4⟩ := maj_common h1 h2
    unfold comK
    rw [List.take_length, List.any_eq_true]
    exact ⟨x, hx, by rw [inB_eq, inB_eq, h3, h4]; rfl⟩
  (refine v_enter Try.func8 rfl Try.ntmps8 rfl ?_; intro B _)
  by_cases hbig : 60 < l.length ∨ 60 < a.length ∨ 60 < b.length
  · repeat' (first | apply v_seq | apply v_region | apply v_nil | (apply v_take; (case hg => rfl)) | (apply v_pass; (case hg => rfl); (case hn => rfl); (case hd => rfl)) | (apply v_pure; (case hop => first | (apply p_move <;> rfl) | (apply p_gt <;> rfl) | (apply p_assign <;> rfl) | (apply p_pickT <;> rfl) | (apply p_pickF <;> rfl) | (apply p_lenSlice <;> rfl) | fail); (case hd => rfl)) | (apply v_condT; (case hc => rfl)) | (apply v_cond; (case hc => rfl); all_goals (intro h; (try simp only [reduceCtorEq, dec_true, dec_false, decide_eq_true_eq, decide_eq_false_iff_not, Bool.not_eq_true', Bool.not_eq_false', Option.isNone_iff_eq_none, beq_true, beq_false, beq_iff_eq, beq_eq_false_iff_ne, ne_eq, decide_eq_decide, Bool.not_eq_true, Bool.not_eq_false, Decidable.not_not] at h); first | (exfalso; omega) | skip)) | (apply v_guardB; (case h1 => rfl); (case h2 => rfl); all_goals (intro h; (try simp only [reduceCtorEq, dec_true, dec_false, decide_eq_true_eq, decide_eq_false_iff_not, Bool.not_eq_true', Bool.not_eq_false', Option.isNone_iff_eq_none, beq_true, beq_false, beq_iff_eq, beq_eq_false_iff_ne, ne_eq, decide_eq_decide, Bool.not_eq_true, Bool.not_eq_false, Decidable.not_not] at h); first | skip)) | (apply v_callJ (hs := qw); (case ha => rfl); (case hd => rfl)) | fail)
    all_goals first
      | (exfalso; omega)
      | (refine v_ret [] (outsA1 rfl rfl) (List.nil_sublist _) ?_
         rfl)
      | fail
  have e1 := q1 (by omega)
  have e2 := q2 (by omega)
  have e3 := r1 (by omega)
  have e4 := r2 (by omega)
  clear q1 q2 r1 r2
  generalize majB l a = m1 at *
  generalize majB l b = m2 at *
  repeat' (first | apply v_seq | apply v_region | apply v_nil | apply v_skip | apply v_block | (apply v_take; (case hg => rfl)) | (apply v_pure; (case hop => first | (apply p_move <;> rfl) | (apply p_gt <;> rfl) | (apply p_assign <;> rfl) | (apply p_pickF <;> rfl) | (apply p_lenSlice <;> rfl) | fail); (case hd => rfl)) | (apply v_cond; (case hc => rfl); all_goals (intro h; (try simp only [reduceCtorEq, dec_true, dec_false, decide_eq_true_eq, decide_eq_false_iff_not, Bool.not_eq_true', Bool.not_eq_false', Option.isNone_iff_eq_none, beq_true, beq_false, beq_iff_eq, beq_eq_false_iff_ne, ne_eq, decide_eq_decide, Bool.not_eq_true, Bool.not_eq_false, Decidable.not_not] at h); first | (exfalso; omega) | skip)) | (apply v_guardB; (case h1 => rfl); (case h2 => rfl); all_goals (intro h; (try simp only [reduceCtorEq, dec_true, dec_false, decide_eq_true_eq, decide_eq_false_iff_not, Bool.not_eq_true', Bool.not_eq_false', Option.isNone_iff_eq_none, beq_true, beq_false, beq_iff_eq, beq_eq_false_iff_ne, ne_eq, decide_eq_decide, Bool.not_eq_true, Bool.not_eq_false, Decidable.not_not] at h); first | (exfalso; omega) | skip)) | (apply v_callJ (hs := e1); (case ha => rfl); (case hd => rfl)) | (apply v_callJ (hs := e2); (case ha => rfl); (case hd => rfl)) | fail)
  refine v_loop [10, 9, 0, 1, 2, 7, 8] (fun us G' μ' => G' = G ∧ μ' = [] ∧ ∃ k, k ≤ l.length ∧ us = [Value.int .i64 (k : Nat), .bool (comK l a b k), .slice A l.length c, .slice A1 a.length c1, .slice A2 b.length c2, .bool m1, .bool m2]) (fun us => l.length - (headI us).toNat) rfl ⟨rfl, rfl, 0, by omega, rfl⟩ ?_
  rintro us G' μ' ⟨rfl, rfl, k, hk, rfl⟩
  by_cases hlt : k < l.length
  · have e1 : ((k : Nat) : Int).toNat = k := by omega
    have hA := hsome (by omega)
    have hc0 := hel k hlt
    have hnx : comK l a b (k + 1) = (comK l a b k || (inB a l[k] && inB b l[k])) := by
      unfold comK
      rw [List.take_succ_eq_append_getElem hlt, List.any_append, List.any_cons, List.any_nil, Bool.or_false]
    have qa := ia l[k]
    have qb := ib l[k]
    generalize l[k] = x at *
    generalize inB a x = ja at *
    generalize inB b x = jb at *
    generalize comK l a b k = cb at *
    repeat' (first | apply v_seq | apply v_region | apply v_nil | apply v_skip | apply v_block | apply v_blk | (apply v_take; (case hg => rfl)) | (apply v_pass; (case hg => rfl); (case hn => rfl); (case hd => rfl)) | (apply v_passN; (case hg => rfl); (case hn => rfl); (case hd => rfl)) | (apply v_pure; (case hop => first | (apply p_move <;> rfl) | (apply p_lt <;> rfl) | (apply p_assign <;> rfl) | (apply p_pickT <;> rfl) | (apply p_pickF <;> rfl) | (apply p_lenSlice <;> rfl) | (apply p_add; (case hx => rfl); (case hy => rfl); (case h => omega)) | (apply p_indexAddrS; (case hx => rfl); (case hi => rfl); (case h0 => omega); (case h => omega); (case hA => first | assumption | fail)) | fail); (case hd => rfl)) | (apply v_cond; (case hc => rfl); all_goals (intro h; (try simp only [reduceCtorEq, dec_true, dec_false, decide_eq_true_eq, decide_eq_false_iff_not, Bool.not_eq_true', Bool.not_eq_false', Option.isNone_iff_eq_none, beq_true, beq_false, beq_iff_eq, beq_eq_false_iff_ne, ne_eq, decide_eq_decide, Bool.not_eq_true, Bool.not_eq_false, Decidable.not_not] at h); first | (exfalso; omega) | skip)) | (apply v_guardB; (case h1 => rfl); (case h2 => rfl); all_goals (intro h; (try simp only [reduceCtorEq, dec_true, dec_false, decide_eq_true_eq, decide_eq_false_iff_not, Bool.not_eq_true', Bool.not_eq_false', Option.isNone_iff_eq_none, beq_true, beq_false, beq_iff_eq, beq_eq_false_iff_ne, ne_eq, decide_eq_decide, Bool.not_eq_true, Bool.not_eq_false, Decidable.not_not] at h); first | skip)) | (apply v_read; (case hop => first | (apply r_load1; rfl; exact Cell.frozen hc0)); (case hd => rfl)) | (apply v_callJ (hs := qa); (case ha => rfl); (case hd => rfl)) | (apply v_callJ (hs := qb); (case ha => rfl); (case hd => rfl)) | fail)
    all_goals
      (refine v_again rfl ⟨rfl, rfl, k + 1, by omega, ?_⟩ (by simp [headI]; omega)
       rw [hnx]
       simp_all)
  · have e1 : k = l.length := by omega
    subst e1
    clear hk hlt
    generalize comK l a b l.length = cb at *
    repeat' (first | apply v_seq | apply v_region | apply v_nil | (apply v_exit; (case hp => rfl)) | (apply v_take; (case hg => rfl)) | (apply v_pass; (case hg => rfl); (case hn => rfl); (case hd => rfl)) | (apply v_pure; (case hop => first | (apply p_move <;> rfl) | (apply p_eqBs <;> rfl) | (apply p_lt <;> rfl) | (apply p_assign <;> rfl) | (apply p_pickT <;> rfl) | (apply p_pickF <;> rfl) | (apply p_not <;> rfl) | (apply p_lenSlice <;> rfl) | fail); (case hd => rfl)) | (apply v_cond; (case hc => rfl); all_goals (intro h; (try simp only [reduceCtorEq, dec_true, dec_false, decide_eq_true_eq, decide_eq_false_iff_not, Bool.not_eq_true', Bool.not_eq_false', Option.isNone_iff_eq_none, beq_true, beq_false, beq_iff_eq, beq_eq_false_iff_ne, ne_eq, decide_eq_decide, Bool.not_eq_true, Bool.not_eq_false, Decidable.not_not] at h); first | (exfalso; omega) | skip)) | (apply v_guardB; (case h1 => rfl); (case h2 => rfl); all_goals (intro h; (try simp only [reduceCtorEq, dec_true, dec_false, decide_eq_true_eq, decide_eq_false_iff_not, Bool.not_eq_true', Bool.not_eq_false', Option.isNone_iff_eq_none, beq_true, beq_false, beq_iff_eq, beq_eq_false_iff_ne, ne_eq, decide_eq_decide, Bool.not_eq_true, Bool.not_eq_false, Decidable.not_not] at h); first | skip)) | (apply v_callJ (hs := e3); (case ha => rfl); (case hd => rfl)) | (apply v_callJ (hs := e4); (case ha => rfl); (case hd => rfl)) | (apply v_callJ (hs := qw); (case ha => rfl); (case hd => rfl)) | fail)
    all_goals first
      | (refine v_ret [] (outsA1 rfl rfl) (List.nil_sublist _) ?_
         rfl)
      | (exfalso
         have := hcom (by assumption) (by assumption)
         simp_all)
end Go.Proofs.Ytgflmkhfachlcaa
/-
  ConfMajorities: whether more than half of any members are among some, and that two such have a member in common: the law answers true at every input. Condition: none.
-/
set_option linter.unusedSimpArgs false
set_option linter.unusedVariables false
namespace Go.Proofs.Ytgflmkhfachlcaa
open Go.Vx Go.ChangeShapes Go.WideShapes Go.ChangeAt Go.RowKit
theorem confMajorities_own : ownKnob Try.prog.godebug = none := by kernel_rfl
theorem confMajorities_laidOut : laidOutB Try.prog = true := by kernel_rfl
theorem confMajorities_spec : LawSpec Rows.confMajoritiesSpec 3 := ⟨rfl, fun H ds h => by match ds, h with | [d0, d1, d2], _ => rfl⟩
set_option maxRecDepth 100000 in
theorem confMajorities_lifted (os : Os) (started : os.Started) (H : Type) (enc : TypeId × Value → H) :
    ReturnsInHanded {} Try.checked os 8 .any (Rows.confMajoritiesSpec.pre6 enc Try.prog Try.f8 Rows.confMajoritiesRow.domain false) (Rows.confMajoritiesSpec.post enc Try.prog Try.f8 false true false false) := by
  refine returnsInHanded_of_change (C := Try.checked) confMajorities_own started (by kernel_rfl) Try.func8
    (ChangeSpec.witness6 (enc := enc) (C := Try.checked) false ⟨#[], #[.slice none 0 0, .slice none 0 0, .slice none 0 0], []⟩ 8 (by kernel_rfl) (by kernel_rfl) (by kernel_rfl) (by kernel_rfl)) ?_
  intro W base args ds gs before hval0 hW hcnd _
  have hval : ∀ (j : Nat) t v, Try.f8.params[j]? = some t → args[j]? = some v → Value.okWide Try.prog W .any base t v := hval0
  refine law_post confMajorities_laidOut Try.underlying4 rfl confMajorities_spec rfl (by kernel_rfl) hW ?_
  obtain ⟨p, q, hA0, hV, rfl, hfz, hnd⟩ := hW
  have hA : DataW.TrodAll enc Try.prog W 0 (fun _ => true) true Try.f8.params.toList args.toList ds p := hA0
  rw [Try.params8] at hA hval
  obtain ⟨v0, vs0, d0, ds0, p0, q0, hargs, rfl, rfl, h0, r0⟩ := trodAll_cons hA
  obtain ⟨v1, vs1, d1, ds1, p1, q1, rfl, rfl, rfl, h1, r1⟩ := trodAll_cons r0
  obtain ⟨v2, vs2, d2, ds2, p2, q2, rfl, rfl, rfl, h2, r2⟩ := trodAll_cons r1
  obtain ⟨rfl, rfl, rfl⟩ := trodAll_nil r2
  obtain rfl : args = #[v0, v1, v2] := by cases args; simp_all
  have g0 := arg_t22 (hval 0 22 v0 rfl rfl) h0
  have g1 := arg_t22 (hval 1 22 v1 rfl rfl) h1
  have g2 := arg_t22 (hval 2 22 v2 rfl rfl) h2
  exact confMajorities_law g0 g1 g2
theorem confMajorities_over : Rows.confMajoritiesRow.holds Try.pinned (OpenSpec.ofChange Rows.confMajoritiesSpec) :=
  OpenClaim.holds_of_wide 8 Try.f8 rfl rfl rfl rfl rfl rfl rfl ⟨rfl, rfl, rfl, rfl, rfl⟩ rfl rfl rfl rfl rfl (by kernel_rfl) Try.func8 (by kernel_rfl)
    (of_decide_eq_true (by kernel_rfl)) (by unfold Func.isWrapper; first | (rw [if_pos (by decide +kernel)]; kernel_rfl) | (rw [if_neg (by decide +kernel)]; exact ⟨rfl, rfl⟩))
    (fun os started H enc _ => confMajorities_lifted os started H enc)
theorem confMajorities_holds : Rows.ConfMajoritiesSaid := confMajorities_over

end Go.Proofs.Ytgflmkhfachlcaa
