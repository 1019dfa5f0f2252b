/-
  The library: slices.Clone and slices.Insert of pairs and of sessions. (Printed by genL.py.)
-/
import Derived.Test.YtgflmkhfachlcaaGreatDoorM2
import Derived.Laws.MakeOwn
import Derived.Test.YtgflmkhfachlcaaGreatDoorM1
set_option linter.unusedSimpArgs false
set_option linter.unusedVariables false
namespace Go.Proofs.YtgflmkhfachlcaaGreatDoor
open Go.Vx Go.ChangeShapes Go.WideShapes Go.ChangeAt Go.RowKit
theorem p_sliceB {σ : Env} {ty t e : TypeId} {agg : Bool} {sz bytes : Nat} {zero : Value} {x lo : Operand} {b o n c : Nat} {k : IntKind} {z : Int} [Ty Tryz.prog t (.slice e)] [Lay Tryz.prog e agg sz bytes zero] (m : Nat) (hx : Env.ev σ x = some (.slice (some ⟨b, o, none⟩) n c)) (hl : Env.ev σ lo = some (.int k z)) (hz : z = (m : Nat)) (h1 : m ≤ n) (h2 : n ≤ c) (h3 : m < c) :
    PureOp Tryz.prog (.slice t x (some lo) none none) ty σ (.slice (some ⟨b, o + m * sz, none⟩) (n - m) (c - m)) := by
  subst hz
  have h := p_sliceL (P := Tryz.prog) (ty := ty) (t := t) (e := e) (agg := agg) (sz := sz) (bytes := bytes) (zero := zero) hx hl (by omega) (by omega) h2
  simp only [Int.toNat_natCast] at h
  rw [if_neg (by omega), Option.map_some, add_mk] at h
  exact h
theorem p_sliceHB {σ : Env} {ty t e : TypeId} {agg : Bool} {sz bytes : Nat} {zero : Value} {x hi : Operand} {A : Option Addr} {n c : Nat} {k : IntKind} {z : Int} [Ty Tryz.prog t (.slice e)] [Lay Tryz.prog e agg sz bytes zero] (m : Nat) (hx : Env.ev σ x = some (.slice A n c)) (hl : Env.ev σ hi = some (.int k z)) (hz : z = (m : Nat)) (h1 : m ≤ c) :
    PureOp Tryz.prog (.slice t x none (some hi) none) ty σ (.slice A m c) := by
  subst hz
  exact p_sliceH (P := Tryz.prog) (ty := ty) (t := t) (e := e) (agg := agg) (sz := sz) (bytes := bytes) (zero := zero) hx hl (by omega) (by omega)
/-- What the two copies leave in a row of zeros. -/
theorem ins_row (p z sp a t : List Value) (hz : z.length = a.length + t.length) (h : t.length = z.length - a.length) : over (over (p ++ z ++ sp) p.length a) (p.length + a.length) t = p ++ a ++ t ++ sp := by
  have e1 : over (p ++ z ++ sp) p.length a = p ++ a ++ z.drop a.length ++ sp := by
    unfold over
    rw [List.append_assoc p z sp, List.take_left, ← List.drop_drop, List.drop_left, List.drop_append_of_le_length (by omega)]
    simp
  rw [e1]
  unfold over
  rw [show p.length + a.length = (p ++ a).length by simp, List.append_assoc (p ++ a), List.take_left, ← List.drop_drop, List.drop_left, List.drop_append_of_le_length (by rw [List.length_drop]; omega), List.drop_of_length_le (l := List.drop a.length z) (by rw [List.length_drop]; omega)]
  simp
theorem ins_shift (p t sp a : List Value) (h : a.length ≤ sp.length) : over (over (p ++ t ++ sp) (p.length + a.length) t) p.length a = p ++ a ++ t ++ sp.drop a.length := by
  have e1 : over (p ++ t ++ sp) (p.length + a.length) t = (p ++ (t ++ sp).take a.length) ++ (t ++ sp.drop a.length) := by
    unfold over
    rw [List.append_assoc p t sp, List.take_append, List.take_of_length_le (by omega), show p.length + a.length - p.length = a.length by omega, show p.length + a.length + t.length = p.length + (t.length + a.length) by omega, ← List.drop_drop, List.drop_left, ← List.drop_drop, List.drop_left]
    simp
  have e2 : ((t ++ sp).take a.length).length = a.length := by rw [List.length_take, List.length_append]; omega
  rw [e1]
  unfold over
  rw [List.append_assoc p, List.take_left, show p.length + a.length = (p ++ (t ++ sp).take a.length).length by rw [List.length_append, e2], ← List.append_assoc p, List.drop_left]
  simp
theorem prClone_s {G : GH} {l : List Pr} {sv : Value} (hs : Prs G sv l) (hn : l.length ≤ 200) : Con Tryz.prog 86 #[sv] G [] (fun r G' μ' => G' = G ∧ Grow 65 3 r l.length (rowC Pr.cells l) μ') := by
  obtain ⟨A, c, rfl, hlc, hcm, hsome, hcp⟩ := rowOpen hs
  simp only [maxLen] at hcm
  (refine v_enter Tryz.func86 rfl Tryz.ntmps86 rfl ?_; intro B _)
  cases A with
  | none =>
    have h0 : l.length = 0 := by
      by_cases h : 0 < l.length
      · cases hsome h
      · omega
    have h1 : l = [] := List.eq_nil_of_length_eq_zero h0
    subst h1
    repeat' (first | apply v_seq | apply v_region | apply v_nil | (apply v_pure; (case hop => first | (apply p_move <;> rfl) | (apply p_assign <;> rfl) | (apply p_eqNilSlice <;> rfl)); (case hd => rfl)) | (apply v_condT; (case hc => rfl)) | fail)
    refine v_ret [] (outsA1 rfl rfl) (by repeat (first | exact List.Sublist.refl _ | fail)) ?_
    exact ⟨rfl, Grow.nil _ _⟩
  | some a =>
    have hsrc := fun μ => rowSrc (μ := μ) (c := c) Pr.len (by omega) hsome hcp
    repeat' (first | apply v_seq | apply v_region | apply v_nil | apply v_skip | (apply v_pure; (case hop => first | (apply p_move <;> rfl) | (apply p_assign <;> rfl) | (apply p_eqNilSlice <;> rfl)); (case hd => rfl)) | (apply v_condF; (case hc => rfl)) | (apply v_buildSlice; (case hz => rfl); (case hi => rfl); (case hv => (simp only [List.map_cons, List.map_nil]; repeat (first | with_reducible exact evs_nil | fail))); (case hp => (first | with_reducible exact pk_nil | fail)); (case hb => rfl); (case hd => rfl); intro b) | fail)
    refine v_append (e := 65) (agg := true) (sz := 3) (bytes := 40) (zero := zP) rfl (by omega) rfl rfl Grow.empty (List.Perm.refl _) (hsrc _) (rowC_one Pr.one l) (by omega) (by simp only [maxLen]; omega) rfl fun v' ν' hg => ?_
    repeat' (first | apply v_nil | (apply v_pure; (case hop => first | (apply p_assign <;> rfl) | fail); (case hd => rfl)) | fail)
    refine v_ret _ (outsA1 rfl rfl) (by repeat (first | exact List.Sublist.refl _ | fail)) ?_
    refine ⟨rfl, ?_⟩
    simpa using hg
instance : Overl Tryz.prog 110 65 4 := ⟨_, Tryz.underlying22, fun args w => run_callFunc_extern Tryz.func110 (by kernel_rfl) (by kernel_rfl) (by kernel_rfl) (e := Extern.SlicesOverlaps.overlaps #[22, 22] #[4]) (by kernel_rfl) args w⟩
theorem prZeros (q : Nat) : (Builtin.zeroCells zP.cells q).toList.length = q * 3 := by rw [Array.length_toList, size_zeroCells]; rfl
theorem prInsert_s {G : GH} {l : List Pr} {v : Value} {ν : OH} (x : Pr) (b2 i : Nat) (hg : Grow 65 3 v l.length (rowC Pr.cells l) ν) (hi : i ≤ l.length) (hn : l.length ≤ 200) :
    Con Tryz.prog 101 #[v, .int .i64 i, .slice (some ⟨b2, 0, none⟩) 1 1] G (ν ++ [(b2, .cells x.cells.toArray 65 (0, 0))]) (fun r G' μ' => G' = G ∧ Grow 65 3 r (l.length + 1) (rowC Pr.cells (l.take i ++ x :: l.drop i)) μ') := by
  by_cases hin : i = l.length
  · subst hin
    obtain ⟨A, c, rfl, hc1, hc2⟩ := hg.shape
    simp only [maxLen] at hc2
    (refine v_enter Tryz.func101 rfl Tryz.ntmps101 rfl ?_; intro B _)
    repeat' (first | apply v_seq | apply v_region | apply v_nil | apply v_skip | (apply v_pure; (case hop => first | (apply p_move <;> rfl) | (apply p_eqs <;> rfl) | (apply p_eq <;> rfl) | (apply p_assign <;> rfl) | (apply p_lenSlice <;> rfl) | (apply p_sliceL; (case hx => rfl); (case hl => rfl); all_goals omega) | fail); (case hd => rfl)) | (apply v_condT; (case hc => rfl)) | (apply v_cond; (case hc => rfl); all_goals (intro h; (try simp only [reduceCtorEq, dec_true, dec_false, decide_eq_true_eq, decide_eq_false_iff_not, Bool.not_eq_true', Bool.not_eq_false', Option.isNone_iff_eq_none, beq_true, beq_false, beq_iff_eq, beq_eq_false_iff_ne, ne_eq, decide_eq_decide, Bool.not_eq_true, Bool.not_eq_false, Decidable.not_not] at h); first | (exfalso; omega) | skip)) | fail)
    refine v_append (e := 65) (agg := true) (sz := 3) (bytes := 40) (zero := zP) rfl (by omega) rfl rfl hg (List.Perm.refl _) (m' := 1) (us := x.cells) (Src.own (e := 65) (by simp [Has]) rfl) rfl (by omega) (by simp only [maxLen]; omega) rfl fun v' ν' hg' => ?_
    repeat' (first | apply v_nil | (apply v_pure; (case hop => first | (apply p_assign <;> rfl) | fail); (case hd => rfl)) | fail)
    refine v_ret ν' (outsA1 rfl rfl) (by repeat (first | exact List.sublist_append_left _ _ | fail)) ?_
    refine ⟨rfl, ?_⟩
    rw [List.take_length, List.drop_length, rowC_append, rowC_cons]
    simpa [rowC] using hg'
  · have hlt : i < l.length := by omega
    obtain ⟨hxl, ⟨rfl, h0, rfl⟩ | ⟨b, cap, spare, rfl, rfl, hc1, hc2, hc3⟩⟩ := hg
    · omega
    simp only [maxLen] at hc2
    simp only [List.singleton_append]
    rw [List.length_append, rowC_length Pr.len] at hc3
    by_cases hroom : cap < l.length + 1
    · (refine v_enter Tryz.func101 rfl Tryz.ntmps101 rfl ?_; intro B _)
      repeat' (first | (apply v_pure; (case hop => (apply p_sliceB i; (case hx => rfl); (case hl => rfl); (case hz => omega); (case h1 => omega); (case h2 => omega); (case h3 => omega))); (case hd => rfl)) | (apply v_pure; (case hop => (apply p_sliceHB i; (case hx => rfl); (case hl => rfl); (case hz => omega); (case h1 => omega))); (case hd => rfl)) | apply v_seq | apply v_region | apply v_nil | apply v_skip | (apply v_pure; (case hop => first | (apply p_move <;> rfl) | (apply p_eq <;> rfl) | (apply p_gt <;> rfl) | (apply p_assign <;> rfl) | (apply p_lenSlice <;> rfl) | (apply p_add; (case hx => rfl); (case hy => rfl); (case h => omega)) | (apply p_sub; (case hx => rfl); (case hy => rfl); (case h => omega)) | (apply p_capSlice <;> rfl) | fail); (case hd => rfl)) | (apply v_cond; (case hc => rfl); all_goals (intro h; (try simp only [reduceCtorEq, dec_true, dec_false, decide_eq_true_eq, decide_eq_false_iff_not, Bool.not_eq_true', Bool.not_eq_false', Option.isNone_iff_eq_none, beq_true, beq_false, beq_iff_eq, beq_eq_false_iff_ne, ne_eq, decide_eq_decide, Bool.not_eq_true, Bool.not_eq_false, Decidable.not_not] at h); first | (exfalso; omega) | skip)) | fail)
      refine v_appendZ (e := 65) (agg := true) (sz := 3) (bytes := 40) (zero := zP) (q := l.length + 1 - i) (xs := rowC Pr.cells (l.take i)) rfl (by omega) rfl rfl (by omega) ?_ (by omega) (by omega) (by omega) (by simp only [maxLen]; omega) rfl fun b3 c3 sp3 hd1 hd2 hd3 => ?_
      · refine Src.ownAt (vs := rowC Pr.cells l ++ spare) (e := 65) (by simp [Has]) ?_ (by rw [rowC_length Pr.len, List.length_take]; omega)
        rw [List.drop_zero, List.take_append_of_le_length (by omega), rowC_take Pr.len]
      simp only [maxLen] at hd2
      have zl := prZeros (l.length + 1 - i)
      have tl : (rowC Pr.cells (l.take i)).length = i * 3 := by rw [rowC_length Pr.len, List.length_take]; omega
      repeat' (first | (apply v_pure; (case hop => (apply p_sliceB i; (case hx => rfl); (case hl => rfl); (case hz => omega); (case h1 => omega); (case h2 => omega); (case h3 => omega))); (case hd => rfl)) | apply v_seq | apply v_region | apply v_nil | (apply v_pure; (case hop => first | (apply p_move <;> rfl) | (apply p_assign <;> rfl) | fail); (case hd => rfl)) | fail)
      refine v_copy (e := 65) (agg := true) (sz := 3) (bytes := 40) (zero := zP) (q := 1) rfl rfl (show min 1 _ = 1 by omega) (by omega) (us := x.cells) (Src.own (e := 65) (by simp [Has]) rfl) (by (repeat (first | exact List.Mem.head _ | fail))) rfl (by simp only [List.length_append, zl, tl]; omega) rfl (by (repeat (first | exact Upd.here _ _ | fail))) rfl ?_
      repeat' (first | apply v_seq | apply v_nil | fail)
      have hus : ((rowC Pr.cells l ++ spare).drop (0 + i * 3)).take ((l.length - i) * 3) = rowC Pr.cells (l.drop i) := by
        rw [Nat.zero_add, List.drop_append_of_le_length (by omega), rowC_drop Pr.len, List.take_append_of_le_length (by rw [rowC_length Pr.len, List.length_drop]; omega), List.take_of_length_le (by rw [rowC_length Pr.len, List.length_drop]; omega)]
      have dl : (rowC Pr.cells (l.drop i)).length = (l.length - i) * 3 := by rw [rowC_length Pr.len, List.length_drop]
      refine d_start [] (by kernel_rfl) (by kernel_rfl) (by kernel_rfl) (by intro e he; first | (simp at he ⊢; try omega)) ?_
      all_goals (first | (apply d_take 0; (case hi => rfl); (case hop => first | (apply PureOp.read; apply p_move <;> rfl)); (case hf => kernel_rfl); (case hr => kernel_rfl); (case hd => rfl)) | fail)
      all_goals (first | (apply d_take 1; (case hi => rfl); (case hop => first | (apply PureOp.read; apply p_move <;> rfl)); (case hf => kernel_rfl); (case hr => kernel_rfl); (case hd => rfl)) | fail)
      all_goals (first | (apply d_take 2; (case hi => rfl); (case hop => first | (apply PureOp.read; apply p_move <;> rfl)); (case hf => kernel_rfl); (case hr => kernel_rfl); (case hd => rfl)) | fail)
      all_goals (first | (apply d_take 3; (case hi => rfl); (case hop => first | (apply PureOp.read; apply p_add; (case hx => rfl); (case hy => rfl); (case h => omega))); (case hf => kernel_rfl); (case hr => kernel_rfl); (case hd => rfl)) | fail)
      all_goals (first | (apply d_take 4; (case hi => rfl); (case hop => first | ((apply PureOp.read; apply p_sliceB (i + 1); (case hx => rfl); (case hl => rfl); (case hz => omega); (case h1 => omega); (case h2 => omega); (case h3 => omega))) | fail); (case hf => kernel_rfl); (case hr => kernel_rfl); (case hd => rfl)) | fail)
      all_goals (first | (apply d_take 5; (case hi => rfl); (case hop => first | (apply PureOp.read; apply p_move <;> rfl)); (case hf => kernel_rfl); (case hr => kernel_rfl); (case hd => rfl)) | fail)
      all_goals (first | (apply d_take 6; (case hi => rfl); (case hop => first | (apply PureOp.read; apply p_move <;> rfl)); (case hf => kernel_rfl); (case hr => kernel_rfl); (case hd => rfl)) | fail)
      all_goals (first | (apply d_take 7; (case hi => rfl); (case hop => first | ((apply PureOp.read; apply p_sliceB i; (case hx => rfl); (case hl => rfl); (case hz => omega); (case h1 => omega); (case h2 => omega); (case h3 => omega))) | fail); (case hf => kernel_rfl); (case hr => kernel_rfl); (case hd => rfl)) | fail)
      all_goals (first | ((apply d_copy 8 (e := 65) (agg := true) (sz := 3) (bytes := 40) (zero := zP) (m' := l.length - i) (q := l.length - i) (us := rowC Pr.cells (l.drop i)); (case hi => rfl); (case hr => kernel_rfl);  (case hT => infer_instance); (case hL => infer_instance); (case hy => rfl); (case hx => rfl); (case hq => (show min _ _ = _); omega); (case hm => omega); (case hsrc => exact Src.ownAt (vs := rowC Pr.cells l ++ spare) (e := 65) (by (repeat (first | exact List.Mem.head _ | apply List.Mem.tail))) hus dl); (case hb => (repeat (first | exact List.Mem.head _ | fail))); (case h1 => rw [List.take_of_length_le (by omega)]; exact rowC_one Pr.one _); (case hfit => simp only [over, List.length_append, List.length_take, List.length_drop, zl, tl, Pr.len]; omega); (case hov => rfl); (case hu => (repeat (first | exact Upd.here _ _ | fail))); (case hd => rfl); (case hν' => intro e he; cases he))) | fail)
      all_goals (apply d_done; (case hr => kernel_rfl))
      repeat' (first | apply v_seq | apply v_region | apply v_nil | (apply v_pure; (case hop => first | (apply p_move <;> rfl) | (apply p_assign <;> rfl) | fail); (case hd => rfl)) | fail)
      refine v_ret [(b3, _)] (outsA1 rfl rfl) (by repeat (first | exact List.nil_sublist _ | apply List.Sublist.cons_cons | fail)) ?_
      refine ⟨rfl, ?_⟩
      have el : (rowC Pr.cells (l.take i ++ x :: l.drop i)) = rowC Pr.cells (l.take i) ++ x.cells ++ rowC Pr.cells (l.drop i) := by rw [rowC_append, rowC_cons, List.append_assoc]
      have e := ins_row (rowC Pr.cells (l.take i)) (Builtin.zeroCells zP.cells (l.length + 1 - i)).toList sp3 x.cells (rowC Pr.cells (l.drop i)) (by rw [zl, dl, Pr.len]; omega) (by rw [zl, dl, Pr.len]; omega)
      rw [tl, Pr.len] at e
      rw [show 0 + (i + 1) * 3 = i * 3 + 3 by omega, show 0 + i * 3 = i * 3 by omega, List.take_of_length_le (l := rowC Pr.cells (l.drop i)) (by omega), show x.cells.take (1 * 3) = x.cells from rfl, e, show i + (l.length + 1 - i) = l.length + 1 by omega]
      refine ⟨by rw [el, List.length_append, List.length_append, tl, dl, Pr.len]; omega, .inr ⟨b3, c3, sp3, rfl, by rw [el], by omega, by simp only [maxLen]; omega, ?_⟩⟩
      simp only [List.length_append, zl, tl] at hd3
      rw [el]
      simp only [List.length_append, tl, dl, Pr.len]
      omega
    · (refine v_enter Tryz.func101 rfl Tryz.ntmps101 rfl ?_; intro B _)
      repeat' (first | (apply v_pure; (case hop => (apply p_sliceB i; (case hx => rfl); (case hl => rfl); (case hz => omega); (case h1 => omega); (case h2 => omega); (case h3 => omega))); (case hd => rfl)) | (apply v_pure; (case hop => (apply p_sliceB (i + 1); (case hx => rfl); (case hl => rfl); (case hz => omega); (case h1 => omega); (case h2 => omega); (case h3 => omega))); (case hd => rfl)) | (apply v_pure; (case hop => (apply p_sliceHB (l.length + 1); (case hx => rfl); (case hl => rfl); (case hz => omega); (case h1 => omega))); (case hd => rfl)) | apply v_seq | apply v_region | apply v_nil | apply v_skip | (apply v_pure; (case hop => first | (apply p_move <;> rfl) | (apply p_eq <;> rfl) | (apply p_gt <;> rfl) | (apply p_assign <;> rfl) | (apply p_lenSlice <;> rfl) | (apply p_add; (case hx => rfl); (case hy => rfl); (case h => omega)) | (apply p_capSlice <;> rfl) | fail); (case hd => rfl)) | (apply v_cond; (case hc => rfl); all_goals (intro h; (try simp only [reduceCtorEq, dec_true, dec_false, decide_eq_true_eq, decide_eq_false_iff_not, Bool.not_eq_true', Bool.not_eq_false', Option.isNone_iff_eq_none, beq_true, beq_false, beq_iff_eq, beq_eq_false_iff_ne, ne_eq, decide_eq_decide, Bool.not_eq_true, Bool.not_eq_false, Decidable.not_not] at h); first | (exfalso; omega) | skip)) | fail)
      refine v_ne (b' := b2) (by simp) fun hne => ?_
      refine v_apart (e := 65) (agg := true) (sz := 3) (bytes := 40) (zero := zP) rfl rfl (by (repeat (first | exact List.Mem.head _ | apply List.Mem.tail))) (by (repeat (first | exact List.Mem.head _ | fail))) hne (fun h => by have := congrArg List.length h; rw [List.length_append, rowC_length Pr.len, List.length_nil] at this; omega) rfl ?_
      repeat' (first | apply v_seq | apply v_nil | (apply v_pure; (case hop => first | (apply p_not <;> rfl) | fail); (case hd => rfl)) | (apply v_condT; (case hc => rfl)) | fail)
      have tl : (rowC Pr.cells (l.take i)).length = i * 3 := by rw [rowC_length Pr.len, List.length_take]; omega
      have dl : (rowC Pr.cells (l.drop i)).length = (l.length - i) * 3 := by rw [rowC_length Pr.len, List.length_drop]
      have hus : (((rowC Pr.cells l ++ spare).drop (0 + i * 3)).take ((l.length + 1 - i) * 3)).take ((l.length - i) * 3) = rowC Pr.cells (l.drop i) := by
        rw [List.take_take, Nat.zero_add, Nat.min_eq_left (by omega), List.drop_append_of_le_length (by omega), rowC_drop Pr.len, List.take_append_of_le_length (by omega), List.take_of_length_le (by omega)]
      refine d_start [] (by kernel_rfl) (by kernel_rfl) (by kernel_rfl) (by intro e he; first | (simp at he ⊢; try omega)) ?_
      all_goals (first | (apply d_take 0; (case hi => rfl); (case hop => first | (apply PureOp.read; apply p_move <;> rfl)); (case hf => kernel_rfl); (case hr => kernel_rfl); (case hd => rfl)) | fail)
      all_goals (first | (apply d_take 1; (case hi => rfl); (case hop => first | (apply PureOp.read; apply p_move <;> rfl)); (case hf => kernel_rfl); (case hr => kernel_rfl); (case hd => rfl)) | fail)
      all_goals (first | (apply d_take 2; (case hi => rfl); (case hop => first | (apply PureOp.read; apply p_move <;> rfl)); (case hf => kernel_rfl); (case hr => kernel_rfl); (case hd => rfl)) | fail)
      all_goals (first | (apply d_take 3; (case hi => rfl); (case hop => first | (apply PureOp.read; apply p_add; (case hx => rfl); (case hy => rfl); (case h => omega))); (case hf => kernel_rfl); (case hr => kernel_rfl); (case hd => rfl)) | fail)
      all_goals (first | (apply d_take 4; (case hi => rfl); (case hop => first | ((apply PureOp.read; apply p_sliceB (i + 1); (case hx => rfl); (case hl => rfl); (case hz => omega); (case h1 => omega); (case h2 => omega); (case h3 => omega))) | fail); (case hf => kernel_rfl); (case hr => kernel_rfl); (case hd => rfl)) | fail)
      all_goals (first | (apply d_take 5; (case hi => rfl); (case hop => first | (apply PureOp.read; apply p_move <;> rfl)); (case hf => kernel_rfl); (case hr => kernel_rfl); (case hd => rfl)) | fail)
      all_goals (first | (apply d_take 6; (case hi => rfl); (case hop => first | (apply PureOp.read; apply p_move <;> rfl)); (case hf => kernel_rfl); (case hr => kernel_rfl); (case hd => rfl)) | fail)
      all_goals (first | (apply d_take 7; (case hi => rfl); (case hop => first | ((apply PureOp.read; apply p_sliceB i; (case hx => rfl); (case hl => rfl); (case hz => omega); (case h1 => omega); (case h2 => omega); (case h3 => omega))) | fail); (case hf => kernel_rfl); (case hr => kernel_rfl); (case hd => rfl)) | fail)
      all_goals (first | ((apply d_copy 8 (e := 65) (agg := true) (sz := 3) (bytes := 40) (zero := zP) (m' := l.length + 1 - i) (q := l.length - i) (us := ((rowC Pr.cells l ++ spare).drop (0 + i * 3)).take ((l.length + 1 - i) * 3)); (case hi => rfl); (case hr => kernel_rfl);  (case hT => infer_instance); (case hL => infer_instance); (case hy => rfl); (case hx => rfl); (case hq => (show min _ _ = _); omega); (case hm => omega); (case hsrc => exact Src.ownAt (vs := rowC Pr.cells l ++ spare) (e := 65) (by (repeat (first | exact List.Mem.head _ | fail))) rfl (by simp only [List.length_take, List.length_drop, List.length_append, rowC_length Pr.len]; omega)); (case hb => (repeat (first | exact List.Mem.head _ | fail))); (case h1 => rw [hus]; exact rowC_one Pr.one _); (case hfit => rw [List.length_append, rowC_length Pr.len]; omega); (case hov => rw [hus]); (case hu => (repeat (first | exact Upd.here _ _ | fail))); (case hd => rfl); (case hν' => intro e he; cases he))) | fail)
      all_goals (apply d_done; (case hr => kernel_rfl))
      repeat' (first | (apply v_pure; (case hop => (apply p_sliceB i; (case hx => rfl); (case hl => rfl); (case hz => omega); (case h1 => omega); (case h2 => omega); (case h3 => omega))); (case hd => rfl)) | apply v_seq | apply v_region | (apply v_pure; (case hop => first | (apply p_move <;> rfl) | fail); (case hd => rfl)) | fail)
      refine v_copy (e := 65) (agg := true) (sz := 3) (bytes := 40) (zero := zP) (q := 1) rfl rfl (show min 1 _ = 1 by omega) (by omega) (us := x.cells) (Src.own (e := 65) (by simp [Has]) rfl) (by (repeat (first | exact List.Mem.head _ | fail))) rfl (by rw [over_length (by rw [List.length_append, hxl, dl]; omega), List.length_append, hxl]; omega) rfl (by (repeat (first | exact Upd.here _ _ | fail))) rfl ?_
      repeat' (first | apply v_seq | apply v_region | apply v_nil | (apply v_pure; (case hop => first | (apply p_move <;> rfl) | (apply p_assign <;> rfl) | fail); (case hd => rfl)) | fail)
      refine v_ret [(b, _)] (outsA1 rfl rfl) (by repeat (first | exact List.nil_sublist _ | apply List.Sublist.cons_cons | fail)) ?_
      refine ⟨rfl, ?_⟩
      have el : (rowC Pr.cells (l.take i ++ x :: l.drop i)) = rowC Pr.cells (l.take i) ++ x.cells ++ rowC Pr.cells (l.drop i) := by rw [rowC_append, rowC_cons, List.append_assoc]
      have e := ins_shift (rowC Pr.cells (l.take i)) (rowC Pr.cells (l.drop i)) spare x.cells (by rw [Pr.len]; omega)
      rw [tl, Pr.len, ← rowC_append, List.take_append_drop] at e
      rw [show 0 + (i + 1) * 3 = i * 3 + 3 by omega, show 0 + i * 3 = i * 3 by omega, show x.cells.take (1 * 3) = x.cells from rfl, e]
      refine ⟨by rw [el, List.length_append, List.length_append, tl, dl, Pr.len]; omega, .inr ⟨b, cap, spare.drop 3, rfl, by rw [el], by omega, by simp only [maxLen]; omega, ?_⟩⟩
      rw [el]
      simp only [List.length_append, List.length_drop, tl, dl, Pr.len]
      omega
theorem ssClone_s {G : GH} {l : List Ss} {sv : Value} (hs : Sss G sv l) (hn : l.length ≤ 200) : Con Tryz.prog 78 #[sv] G [] (fun r G' μ' => G' = G ∧ Grow 55 8 r l.length (rowC Ss.cells l) μ') := by
  obtain ⟨A, c, rfl, hlc, hcm, hsome, hcp⟩ := rowOpen hs
  simp only [maxLen] at hcm
  (refine v_enter Tryz.func78 rfl Tryz.ntmps78 rfl ?_; intro B _)
  cases A with
  | none =>
    have h0 : l.length = 0 := by
      by_cases h : 0 < l.length
      · cases hsome h
      · omega
    have h1 : l = [] := List.eq_nil_of_length_eq_zero h0
    subst h1
    repeat' (first | apply v_seq | apply v_region | apply v_nil | (apply v_pure; (case hop => first | (apply p_move <;> rfl) | (apply p_assign <;> rfl) | (apply p_eqNilSlice <;> rfl)); (case hd => rfl)) | (apply v_condT; (case hc => rfl)) | fail)
    refine v_ret [] (outsA1 rfl rfl) (by repeat (first | exact List.Sublist.refl _ | fail)) ?_
    exact ⟨rfl, Grow.nil _ _⟩
  | some a =>
    have hsrc := fun μ => rowSrc (μ := μ) (c := c) Ss.len (by omega) hsome hcp
    repeat' (first | apply v_seq | apply v_region | apply v_nil | apply v_skip | (apply v_pure; (case hop => first | (apply p_move <;> rfl) | (apply p_assign <;> rfl) | (apply p_eqNilSlice <;> rfl)); (case hd => rfl)) | (apply v_condF; (case hc => rfl)) | (apply v_buildSlice; (case hz => rfl); (case hi => rfl); (case hv => (simp only [List.map_cons, List.map_nil]; repeat (first | with_reducible exact evs_nil | fail))); (case hp => (first | with_reducible exact pk_nil | fail)); (case hb => rfl); (case hd => rfl); intro b) | fail)
    refine v_append (e := 55) (agg := true) (sz := 8) (bytes := 72) (zero := zS) rfl (by omega) rfl rfl Grow.empty (List.Perm.refl _) (hsrc _) (rowC_one Ss.one l) (by omega) (by simp only [maxLen]; omega) rfl fun v' ν' hg => ?_
    repeat' (first | apply v_nil | (apply v_pure; (case hop => first | (apply p_assign <;> rfl) | fail); (case hd => rfl)) | fail)
    refine v_ret _ (outsA1 rfl rfl) (by repeat (first | exact List.Sublist.refl _ | fail)) ?_
    refine ⟨rfl, ?_⟩
    simpa using hg
instance : Overl Tryz.prog 96 55 4 := ⟨_, Tryz.underlying23, fun args w => run_callFunc_extern Tryz.func96 (by kernel_rfl) (by kernel_rfl) (by kernel_rfl) (e := Extern.SlicesOverlaps.overlaps #[23, 23] #[4]) (by kernel_rfl) args w⟩
theorem ssZeros (q : Nat) : (Builtin.zeroCells zS.cells q).toList.length = q * 8 := by rw [Array.length_toList, size_zeroCells]; rfl
theorem ssInsert_s {G : GH} {l : List Ss} {v : Value} {ν : OH} (x : Ss) (b2 i : Nat) (hg : Grow 55 8 v l.length (rowC Ss.cells l) ν) (hi : i ≤ l.length) (hn : l.length ≤ 200) :
    Con Tryz.prog 79 #[v, .int .i64 i, .slice (some ⟨b2, 0, none⟩) 1 1] G (ν ++ [(b2, .cells x.cells.toArray 55 (0, 0))]) (fun r G' μ' => G' = G ∧ Grow 55 8 r (l.length + 1) (rowC Ss.cells (l.take i ++ x :: l.drop i)) μ') := by
  by_cases hin : i = l.length
  · subst hin
    obtain ⟨A, c, rfl, hc1, hc2⟩ := hg.shape
    simp only [maxLen] at hc2
    (refine v_enter Tryz.func79 rfl Tryz.ntmps79 rfl ?_; intro B _)
    repeat' (first | apply v_seq | apply v_region | apply v_nil | apply v_skip | (apply v_pure; (case hop => first | (apply p_move <;> rfl) | (apply p_eqs <;> rfl) | (apply p_eq <;> rfl) | (apply p_assign <;> rfl) | (apply p_lenSlice <;> rfl) | (apply p_sliceL; (case hx => rfl); (case hl => rfl); all_goals omega) | fail); (case hd => rfl)) | (apply v_condT; (case hc => rfl)) | (apply v_cond; (case hc => rfl); all_goals (intro h; (try simp only [reduceCtorEq, dec_true, dec_false, decide_eq_true_eq, decide_eq_false_iff_not, Bool.not_eq_true', Bool.not_eq_false', Option.isNone_iff_eq_none, beq_true, beq_false, beq_iff_eq, beq_eq_false_iff_ne, ne_eq, decide_eq_decide, Bool.not_eq_true, Bool.not_eq_false, Decidable.not_not] at h); first | (exfalso; omega) | skip)) | fail)
    refine v_append (e := 55) (agg := true) (sz := 8) (bytes := 72) (zero := zS) rfl (by omega) rfl rfl hg (List.Perm.refl _) (m' := 1) (us := x.cells) (Src.own (e := 55) (by simp [Has]) rfl) rfl (by omega) (by simp only [maxLen]; omega) rfl fun v' ν' hg' => ?_
    repeat' (first | apply v_nil | (apply v_pure; (case hop => first | (apply p_assign <;> rfl) | fail); (case hd => rfl)) | fail)
    refine v_ret ν' (outsA1 rfl rfl) (by repeat (first | exact List.sublist_append_left _ _ | fail)) ?_
    refine ⟨rfl, ?_⟩
    rw [List.take_length, List.drop_length, rowC_append, rowC_cons]
    simpa [rowC] using hg'
  · have hlt : i < l.length := by omega
    obtain ⟨hxl, ⟨rfl, h0, rfl⟩ | ⟨b, cap, spare, rfl, rfl, hc1, hc2, hc3⟩⟩ := hg
    · omega
    simp only [maxLen] at hc2
    simp only [List.singleton_append]
    rw [List.length_append, rowC_length Ss.len] at hc3
    by_cases hroom : cap < l.length + 1
    · (refine v_enter Tryz.func79 rfl Tryz.ntmps79 rfl ?_; intro B _)
      repeat' (first | (apply v_pure; (case hop => (apply p_sliceB i; (case hx => rfl); (case hl => rfl); (case hz => omega); (case h1 => omega); (case h2 => omega); (case h3 => omega))); (case hd => rfl)) | (apply v_pure; (case hop => (apply p_sliceHB i; (case hx => rfl); (case hl => rfl); (case hz => omega); (case h1 => omega))); (case hd => rfl)) | apply v_seq | apply v_region | apply v_nil | apply v_skip | (apply v_pure; (case hop => first | (apply p_move <;> rfl) | (apply p_eq <;> rfl) | (apply p_gt <;> rfl) | (apply p_assign <;> rfl) | (apply p_lenSlice <;> rfl) | (apply p_add; (case hx => rfl); (case hy => rfl); (case h => omega)) | (apply p_sub; (case hx => rfl); (case hy => rfl); (case h => omega)) | (apply p_capSlice <;> rfl) | fail); (case hd => rfl)) | (apply v_cond; (case hc => rfl); all_goals (intro h; (try simp only [reduceCtorEq, dec_true, dec_false, decide_eq_true_eq, decide_eq_false_iff_not, Bool.not_eq_true', Bool.not_eq_false', Option.isNone_iff_eq_none, beq_true, beq_false, beq_iff_eq, beq_eq_false_iff_ne, ne_eq, decide_eq_decide, Bool.not_eq_true, Bool.not_eq_false, Decidable.not_not] at h); first | (exfalso; omega) | skip)) | fail)
      refine v_appendZ (e := 55) (agg := true) (sz := 8) (bytes := 72) (zero := zS) (q := l.length + 1 - i) (xs := rowC Ss.cells (l.take i)) rfl (by omega) rfl rfl (by omega) ?_ (by omega) (by omega) (by omega) (by simp only [maxLen]; omega) rfl fun b3 c3 sp3 hd1 hd2 hd3 => ?_
      · refine Src.ownAt (vs := rowC Ss.cells l ++ spare) (e := 55) (by simp [Has]) ?_ (by rw [rowC_length Ss.len, List.length_take]; omega)
        rw [List.drop_zero, List.take_append_of_le_length (by omega), rowC_take Ss.len]
      simp only [maxLen] at hd2
      have zl := ssZeros (l.length + 1 - i)
      have tl : (rowC Ss.cells (l.take i)).length = i * 8 := by rw [rowC_length Ss.len, List.length_take]; omega
      repeat' (first | (apply v_pure; (case hop => (apply p_sliceB i; (case hx => rfl); (case hl => rfl); (case hz => omega); (case h1 => omega); (case h2 => omega); (case h3 => omega))); (case hd => rfl)) | apply v_seq | apply v_region | apply v_nil | (apply v_pure; (case hop => first | (apply p_move <;> rfl) | (apply p_assign <;> rfl) | fail); (case hd => rfl)) | fail)
      refine v_copy (e := 55) (agg := true) (sz := 8) (bytes := 72) (zero := zS) (q := 1) rfl rfl (show min 1 _ = 1 by omega) (by omega) (us := x.cells) (Src.own (e := 55) (by simp [Has]) rfl) (by (repeat (first | exact List.Mem.head _ | fail))) rfl (by simp only [List.length_append, zl, tl]; omega) rfl (by (repeat (first | exact Upd.here _ _ | fail))) rfl ?_
      repeat' (first | apply v_seq | apply v_nil | fail)
      have hus : ((rowC Ss.cells l ++ spare).drop (0 + i * 8)).take ((l.length - i) * 8) = rowC Ss.cells (l.drop i) := by
        rw [Nat.zero_add, List.drop_append_of_le_length (by omega), rowC_drop Ss.len, List.take_append_of_le_length (by rw [rowC_length Ss.len, List.length_drop]; omega), List.take_of_length_le (by rw [rowC_length Ss.len, List.length_drop]; omega)]
      have dl : (rowC Ss.cells (l.drop i)).length = (l.length - i) * 8 := by rw [rowC_length Ss.len, List.length_drop]
      refine d_start [] (by kernel_rfl) (by kernel_rfl) (by kernel_rfl) (by intro e he; first | (simp at he ⊢; try omega)) ?_
      all_goals (first | (apply d_take 0; (case hi => rfl); (case hop => first | (apply PureOp.read; apply p_move <;> rfl)); (case hf => kernel_rfl); (case hr => kernel_rfl); (case hd => rfl)) | fail)
      all_goals (first | (apply d_take 1; (case hi => rfl); (case hop => first | (apply PureOp.read; apply p_move <;> rfl)); (case hf => kernel_rfl); (case hr => kernel_rfl); (case hd => rfl)) | fail)
      all_goals (first | (apply d_take 2; (case hi => rfl); (case hop => first | (apply PureOp.read; apply p_move <;> rfl)); (case hf => kernel_rfl); (case hr => kernel_rfl); (case hd => rfl)) | fail)
      all_goals (first | (apply d_take 3; (case hi => rfl); (case hop => first | (apply PureOp.read; apply p_add; (case hx => rfl); (case hy => rfl); (case h => omega))); (case hf => kernel_rfl); (case hr => kernel_rfl); (case hd => rfl)) | fail)
      all_goals (first | (apply d_take 4; (case hi => rfl); (case hop => first | ((apply PureOp.read; apply p_sliceB (i + 1); (case hx => rfl); (case hl => rfl); (case hz => omega); (case h1 => omega); (case h2 => omega); (case h3 => omega))) | fail); (case hf => kernel_rfl); (case hr => kernel_rfl); (case hd => rfl)) | fail)
      all_goals (first | (apply d_take 5; (case hi => rfl); (case hop => first | (apply PureOp.read; apply p_move <;> rfl)); (case hf => kernel_rfl); (case hr => kernel_rfl); (case hd => rfl)) | fail)
      all_goals (first | (apply d_take 6; (case hi => rfl); (case hop => first | (apply PureOp.read; apply p_move <;> rfl)); (case hf => kernel_rfl); (case hr => kernel_rfl); (case hd => rfl)) | fail)
      all_goals (first | (apply d_take 7; (case hi => rfl); (case hop => first | ((apply PureOp.read; apply p_sliceB i; (case hx => rfl); (case hl => rfl); (case hz => omega); (case h1 => omega); (case h2 => omega); (case h3 => omega))) | fail); (case hf => kernel_rfl); (case hr => kernel_rfl); (case hd => rfl)) | fail)
      all_goals (first | ((apply d_copy 8 (e := 55) (agg := true) (sz := 8) (bytes := 72) (zero := zS) (m' := l.length - i) (q := l.length - i) (us := rowC Ss.cells (l.drop i)); (case hi => rfl); (case hr => kernel_rfl);  (case hT => infer_instance); (case hL => infer_instance); (case hy => rfl); (case hx => rfl); (case hq => (show min _ _ = _); omega); (case hm => omega); (case hsrc => exact Src.ownAt (vs := rowC Ss.cells l ++ spare) (e := 55) (by (repeat (first | exact List.Mem.head _ | apply List.Mem.tail))) hus dl); (case hb => (repeat (first | exact List.Mem.head _ | fail))); (case h1 => rw [List.take_of_length_le (by omega)]; exact rowC_one Ss.one _); (case hfit => simp only [over, List.length_append, List.length_take, List.length_drop, zl, tl, Ss.len]; omega); (case hov => rfl); (case hu => (repeat (first | exact Upd.here _ _ | fail))); (case hd => rfl); (case hν' => intro e he; cases he))) | fail)
      all_goals (apply d_done; (case hr => kernel_rfl))
      repeat' (first | apply v_seq | apply v_region | apply v_nil | (apply v_pure; (case hop => first | (apply p_move <;> rfl) | (apply p_assign <;> rfl) | fail); (case hd => rfl)) | fail)
      refine v_ret [(b3, _)] (outsA1 rfl rfl) (by repeat (first | exact List.nil_sublist _ | apply List.Sublist.cons_cons | fail)) ?_
      refine ⟨rfl, ?_⟩
      have el : (rowC Ss.cells (l.take i ++ x :: l.drop i)) = rowC Ss.cells (l.take i) ++ x.cells ++ rowC Ss.cells (l.drop i) := by rw [rowC_append, rowC_cons, List.append_assoc]
      have e := ins_row (rowC Ss.cells (l.take i)) (Builtin.zeroCells zS.cells (l.length + 1 - i)).toList sp3 x.cells (rowC Ss.cells (l.drop i)) (by rw [zl, dl, Ss.len]; omega) (by rw [zl, dl, Ss.len]; omega)
      rw [tl, Ss.len] at e
      rw [show 0 + (i + 1) * 8 = i * 8 + 8 by omega, show 0 + i * 8 = i * 8 by omega, List.take_of_length_le (l := rowC Ss.cells (l.drop i)) (by omega), show x.cells.take (1 * 8) = x.cells from rfl, e, show i + (l.length + 1 - i) = l.length + 1 by omega]
      refine ⟨by rw [el, List.length_append, List.length_append, tl, dl, Ss.len]; omega, .inr ⟨b3, c3, sp3, rfl, by rw [el], by omega, by simp only [maxLen]; omega, ?_⟩⟩
      simp only [List.length_append, zl, tl] at hd3
      rw [el]
      simp only [List.length_append, tl, dl, Ss.len]
      omega
    · (refine v_enter Tryz.func79 rfl Tryz.ntmps79 rfl ?_; intro B _)
      repeat' (first | (apply v_pure; (case hop => (apply p_sliceB i; (case hx => rfl); (case hl => rfl); (case hz => omega); (case h1 => omega); (case h2 => omega); (case h3 => omega))); (case hd => rfl)) | (apply v_pure; (case hop => (apply p_sliceB (i + 1); (case hx => rfl); (case hl => rfl); (case hz => omega); (case h1 => omega); (case h2 => omega); (case h3 => omega))); (case hd => rfl)) | (apply v_pure; (case hop => (apply p_sliceHB (l.length + 1); (case hx => rfl); (case hl => rfl); (case hz => omega); (case h1 => omega))); (case hd => rfl)) | apply v_seq | apply v_region | apply v_nil | apply v_skip | (apply v_pure; (case hop => first | (apply p_move <;> rfl) | (apply p_eq <;> rfl) | (apply p_gt <;> rfl) | (apply p_assign <;> rfl) | (apply p_lenSlice <;> rfl) | (apply p_add; (case hx => rfl); (case hy => rfl); (case h => omega)) | (apply p_capSlice <;> rfl) | fail); (case hd => rfl)) | (apply v_cond; (case hc => rfl); all_goals (intro h; (try simp only [reduceCtorEq, dec_true, dec_false, decide_eq_true_eq, decide_eq_false_iff_not, Bool.not_eq_true', Bool.not_eq_false', Option.isNone_iff_eq_none, beq_true, beq_false, beq_iff_eq, beq_eq_false_iff_ne, ne_eq, decide_eq_decide, Bool.not_eq_true, Bool.not_eq_false, Decidable.not_not] at h); first | (exfalso; omega) | skip)) | fail)
      refine v_ne (b' := b2) (by simp) fun hne => ?_
      refine v_apart (e := 55) (agg := true) (sz := 8) (bytes := 72) (zero := zS) rfl rfl (by (repeat (first | exact List.Mem.head _ | apply List.Mem.tail))) (by (repeat (first | exact List.Mem.head _ | fail))) hne (fun h => by have := congrArg List.length h; rw [List.length_append, rowC_length Ss.len, List.length_nil] at this; omega) rfl ?_
      repeat' (first | apply v_seq | apply v_nil | (apply v_pure; (case hop => first | (apply p_not <;> rfl) | fail); (case hd => rfl)) | (apply v_condT; (case hc => rfl)) | fail)
      have tl : (rowC Ss.cells (l.take i)).length = i * 8 := by rw [rowC_length Ss.len, List.length_take]; omega
      have dl : (rowC Ss.cells (l.drop i)).length = (l.length - i) * 8 := by rw [rowC_length Ss.len, List.length_drop]
      have hus : (((rowC Ss.cells l ++ spare).drop (0 + i * 8)).take ((l.length + 1 - i) * 8)).take ((l.length - i) * 8) = rowC Ss.cells (l.drop i) := by
        rw [List.take_take, Nat.zero_add, Nat.min_eq_left (by omega), List.drop_append_of_le_length (by omega), rowC_drop Ss.len, List.take_append_of_le_length (by omega), List.take_of_length_le (by omega)]
      refine d_start [] (by kernel_rfl) (by kernel_rfl) (by kernel_rfl) (by intro e he; first | (simp at he ⊢; try omega)) ?_
      all_goals (first | (apply d_take 0; (case hi => rfl); (case hop => first | (apply PureOp.read; apply p_move <;> rfl)); (case hf => kernel_rfl); (case hr => kernel_rfl); (case hd => rfl)) | fail)
      all_goals (first | (apply d_take 1; (case hi => rfl); (case hop => first | (apply PureOp.read; apply p_move <;> rfl)); (case hf => kernel_rfl); (case hr => kernel_rfl); (case hd => rfl)) | fail)
      all_goals (first | (apply d_take 2; (case hi => rfl); (case hop => first | (apply PureOp.read; apply p_move <;> rfl)); (case hf => kernel_rfl); (case hr => kernel_rfl); (case hd => rfl)) | fail)
      all_goals (first | (apply d_take 3; (case hi => rfl); (case hop => first | (apply PureOp.read; apply p_add; (case hx => rfl); (case hy => rfl); (case h => omega))); (case hf => kernel_rfl); (case hr => kernel_rfl); (case hd => rfl)) | fail)
      all_goals (first | (apply d_take 4; (case hi => rfl); (case hop => first | ((apply PureOp.read; apply p_sliceB (i + 1); (case hx => rfl); (case hl => rfl); (case hz => omega); (case h1 => omega); (case h2 => omega); (case h3 => omega))) | fail); (case hf => kernel_rfl); (case hr => kernel_rfl); (case hd => rfl)) | fail)
      all_goals (first | (apply d_take 5; (case hi => rfl); (case hop => first | (apply PureOp.read; apply p_move <;> rfl)); (case hf => kernel_rfl); (case hr => kernel_rfl); (case hd => rfl)) | fail)
      all_goals (first | (apply d_take 6; (case hi => rfl); (case hop => first | (apply PureOp.read; apply p_move <;> rfl)); (case hf => kernel_rfl); (case hr => kernel_rfl); (case hd => rfl)) | fail)
      all_goals (first | (apply d_take 7; (case hi => rfl); (case hop => first | ((apply PureOp.read; apply p_sliceB i; (case hx => rfl); (case hl => rfl); (case hz => omega); (case h1 => omega); (case h2 => omega); (case h3 => omega))) | fail); (case hf => kernel_rfl); (case hr => kernel_rfl); (case hd => rfl)) | fail)
      all_goals (first | ((apply d_copy 8 (e := 55) (agg := true) (sz := 8) (bytes := 72) (zero := zS) (m' := l.length + 1 - i) (q := l.length - i) (us := ((rowC Ss.cells l ++ spare).drop (0 + i * 8)).take ((l.length + 1 - i) * 8)); (case hi => rfl); (case hr => kernel_rfl);  (case hT => infer_instance); (case hL => infer_instance); (case hy => rfl); (case hx => rfl); (case hq => (show min _ _ = _); omega); (case hm => omega); (case hsrc => exact Src.ownAt (vs := rowC Ss.cells l ++ spare) (e := 55) (by (repeat (first | exact List.Mem.head _ | fail))) rfl (by simp only [List.length_take, List.length_drop, List.length_append, rowC_length Ss.len]; omega)); (case hb => (repeat (first | exact List.Mem.head _ | fail))); (case h1 => rw [hus]; exact rowC_one Ss.one _); (case hfit => rw [List.length_append, rowC_length Ss.len]; omega); (case hov => rw [hus]); (case hu => (repeat (first | exact Upd.here _ _ | fail))); (case hd => rfl); (case hν' => intro e he; cases he))) | fail)
      all_goals (apply d_done; (case hr => kernel_rfl))
      repeat' (first | (apply v_pure; (case hop => (apply p_sliceB i; (case hx => rfl); (case hl => rfl); (case hz => omega); (case h1 => omega); (case h2 => omega); (case h3 => omega))); (case hd => rfl)) | apply v_seq | apply v_region | (apply v_pure; (case hop => first | (apply p_move <;> rfl) | fail); (case hd => rfl)) | fail)
      refine v_copy (e := 55) (agg := true) (sz := 8) (bytes := 72) (zero := zS) (q := 1) rfl rfl (show min 1 _ = 1 by omega) (by omega) (us := x.cells) (Src.own (e := 55) (by simp [Has]) rfl) (by (repeat (first | exact List.Mem.head _ | fail))) rfl (by rw [over_length (by rw [List.length_append, hxl, dl]; omega), List.length_append, hxl]; omega) rfl (by (repeat (first | exact Upd.here _ _ | fail))) rfl ?_
      repeat' (first | apply v_seq | apply v_region | apply v_nil | (apply v_pure; (case hop => first | (apply p_move <;> rfl) | (apply p_assign <;> rfl) | fail); (case hd => rfl)) | fail)
      refine v_ret [(b, _)] (outsA1 rfl rfl) (by repeat (first | exact List.nil_sublist _ | apply List.Sublist.cons_cons | fail)) ?_
      refine ⟨rfl, ?_⟩
      have el : (rowC Ss.cells (l.take i ++ x :: l.drop i)) = rowC Ss.cells (l.take i) ++ x.cells ++ rowC Ss.cells (l.drop i) := by rw [rowC_append, rowC_cons, List.append_assoc]
      have e := ins_shift (rowC Ss.cells (l.take i)) (rowC Ss.cells (l.drop i)) spare x.cells (by rw [Ss.len]; omega)
      rw [tl, Ss.len, ← rowC_append, List.take_append_drop] at e
      rw [show 0 + (i + 1) * 8 = i * 8 + 8 by omega, show 0 + i * 8 = i * 8 by omega, show x.cells.take (1 * 8) = x.cells from rfl, e]
      refine ⟨by rw [el, List.length_append, List.length_append, tl, dl, Ss.len]; omega, .inr ⟨b, cap, spare.drop 8, rfl, by rw [el], by omega, by simp only [maxLen]; omega, ?_⟩⟩
      rw [el]
      simp only [List.length_append, List.length_drop, tl, dl, Ss.len]
      omega
end Go.Proofs.YtgflmkhfachlcaaGreatDoor
/-
  The library: binary searches of sessions and of pairs. (Printed by genS.py.)
-/
set_option linter.unusedSimpArgs false
set_option linter.unusedVariables false
namespace Go.Proofs.YtgflmkhfachlcaaGreatDoor
open Go.Vx Go.ChangeShapes Go.WideShapes Go.ChangeAt Go.RowKit
theorem p_convUW {σ : Env} {ty : TypeId} {x : Operand} {k'' : IntKind} {a : Int} {t u : TypeId} [Ty Tryz.prog t (.int k'')] [Ty Tryz.prog u (.int .u64)] (hx : Env.ev σ x = some (.int .i64 (IntKind.i64.wrap a))) (h : 0 ≤ a ∧ a ≤ 18446744073709551615) : PureOp Tryz.prog (.convert t u x) ty σ (.int .u64 a) := by
  have e : IntKind.u64.wrap (IntKind.i64.wrap a) = a := by rw [IntKind.wrap_u64, IntKind.wrap_i64]; omega
  have := p_conv (P := Tryz.prog) (ty := ty) (t := t) (u := u) hx
  rwa [e] at this
attribute [local semireducible] PureOp in
theorem p_shr1 {σ : Env} {ty : TypeId} {x y : Operand} {k' : IntKind} {a : Int} {t t' : TypeId} (hx : Env.ev σ x = some (.int .u64 a)) (hy : Env.ev σ y = some (.int k' 1)) : PureOp Tryz.prog (.binOp .shr t x y t') ty σ (.int .u64 (a / 2)) := by
  intro dst pos af g ρ hρ w
  have := shift_shr .u64 k' a 1 (by decide) (by decide)
  simp [execOp, hρ _ _ hx, hρ _ _ hy, eqGuard, binOp_shr, this]
theorem isNaN_s (G : GH) (a : Int) : Con Tryz.prog 99 #[.int .i64 a] G [] (Just (.bool false) G) := by
  apply Con.just
  (refine v_enter Tryz.func99 rfl Tryz.ntmps99 rfl ?_; intro B _)
  repeat' (first | apply v_seq | apply v_region | apply v_nil | (apply v_pure; (case hop => first | (apply p_move <;> rfl) | (apply p_nes <;> rfl) | (apply p_assign <;> rfl) | fail); (case hd => rfl)) | fail)
  refine v_ret [] (outsA1 rfl rfl) (by repeat (first | exact List.Sublist.refl _ | fail)) ?_
  refine ⟨?_, rfl⟩
  simp [dec_eq]
theorem cmp_s (G : GH) (a b : Int) : Con Tryz.prog 89 #[.int .i64 a, .int .i64 b] G [] (Just (.int .i64 (cmpK a b)) G) := by
  have qa := isNaN_s G a
  have qb := isNaN_s G b
  apply Con.just
  (refine v_enter Tryz.func89 rfl Tryz.ntmps89 rfl ?_; intro B _)
  repeat' (first | apply v_seq | apply v_region | apply v_nil | apply v_skip | (apply v_pure; (case hop => first | (apply p_move <;> rfl) | (apply p_lt <;> rfl) | (apply p_gt <;> rfl) | (apply p_assign <;> rfl)); (case hd => rfl)) | (apply v_condF; (case hc => rfl)) | (apply v_cond; (case hc => rfl); all_goals (intro h; (try simp only [reduceCtorEq, dec_true, dec_false, decide_eq_true_eq, decide_eq_false_iff_not, Bool.not_eq_true', Bool.not_eq_false', Option.isNone_iff_eq_none, beq_true, beq_false, beq_iff_eq, beq_eq_false_iff_ne, ne_eq, decide_eq_decide, Bool.not_eq_true, Bool.not_eq_false, Decidable.not_not] at h); first | skip)) | (apply v_callJ (hs := qa); (case ha => rfl); (case hd => rfl)) | (apply v_callJ (hs := qb); (case ha => rfl); (case hd => rfl)) | fail)
  all_goals
    (refine v_ret [] (outsA1 rfl rfl) (by repeat (first | exact List.Sublist.refl _ | fail)) ?_
     refine ⟨?_, rfl⟩
     simp [cmpK, *])

section
variable {α : Type} {key : α → Int}
/-- Keys rise. -/
def RiseG (key : α → Int) (l : List α) : Prop := ∀ i j (hj : j < l.length) (h : i < j), key (l[i]'(by omega)) < key l[j]
def placeG (key : α → Int) (l : List α) (n : Int) : Nat := l.countP fun x => decide (key x < n)
theorem placeG_eq {l : List α} {n : Int} {i : Nat} (hi : i ≤ l.length) (h1 : ∀ m (h : m < l.length), m < i → key l[m] < n) (h2 : ∀ m (h : m < l.length), i ≤ m → ¬ key l[m] < n) : placeG key l n = i := by
  have e : l = l.take i ++ l.drop i := (List.take_append_drop i l).symm
  rw [placeG, e, List.countP_append, List.countP_eq_length.2, List.countP_eq_zero.2, List.length_take, Nat.add_zero]
  · omega
  · intro x hx
    obtain ⟨m, hm, rfl⟩ := List.getElem_of_mem hx
    rw [List.length_drop] at hm
    rw [List.getElem_drop]
    simpa using h2 (i + m) (by omega) (by omega)
  · intro x hx
    obtain ⟨m, hm, rfl⟩ := List.getElem_of_mem hx
    rw [List.length_take] at hm
    rw [List.getElem_take]
    simpa using h1 m (by omega) (by omega)
def hitG (key : α → Int) (l : List α) (n : Int) : Bool := if h : placeG key l n < l.length then decide (key (l[placeG key l n]) = n) else false
end
abbrev ksS (x : Ss) : Int := x.client
theorem splace1_s (G : GH) (x : Ss) (n : Int) : Con Tryz.prog 88 #[.agg x.cells.toArray, .int .i64 n] G [] (Just (.int .i64 (cmpK (ksS x) n)) G) := by
  have qc := cmp_s G x.client n
  apply Con.just
  (refine v_enter Tryz.func88 rfl Tryz.ntmps88 rfl ?_; intro B _)
  repeat' (first | apply v_seq | apply v_region | apply v_nil | (apply v_pure; (case hop => first | (apply p_move <;> rfl) | (apply p_assign <;> rfl) | (apply p_fieldAddrB <;> rfl) | fail); (case hd => rfl)) | (apply v_box (zs := x.cells); (case hx => rfl); (case hz => rfl); (case hd => rfl); intro b) | (apply v_callJ (hs := qc); (case ha => rfl); (case hd => rfl)) | (apply v_read; (case hop => first | (apply r_load1; rfl; (apply Cell.own; (case h => (repeat (first | exact List.Mem.head _ | fail))); rfl)) | fail); (case hd => rfl)) | fail)
  refine v_ret [] (outsA1 rfl rfl) (by repeat (first | exact List.nil_sublist _ | fail)) ?_
  exact ⟨rfl, rfl⟩
theorem ssSearch_s {G : GH} {l : List Ss} {sv : Value} (n : Int) (hs : Sss G sv l) (hr : RiseG ksS l) : Con Tryz.prog 87 #[sv, .int .i64 n, .func (.func 88) #[] #[]] G [] (Just (.tuple [.int .i64 (placeG ksS l n : Nat), .bool (hitG ksS l n)].toArray) G) := by
  obtain ⟨A, c, rfl, hlc, hcm, hsome, hcp⟩ := rowOpen hs
  simp only [maxLen] at hcm
  apply Con.just
  (refine v_enter Tryz.func87 rfl Tryz.ntmps87 rfl ?_; intro B _)
  repeat' (first | apply v_seq | apply v_region | apply v_nil | apply v_block | (apply v_pure; (case hop => first | (apply p_move <;> rfl) | (apply p_assign <;> rfl) | (apply p_lenSlice <;> rfl) | fail); (case hd => rfl)) | fail)
  refine v_loop [9, 10, 8, 0, 1, 2] (fun us G' μ' => G' = G ∧ μ' = [] ∧ ∃ i j : Nat, i ≤ j ∧ j ≤ l.length ∧ us = [Value.int .i64 (i : Nat), .int .i64 (j : Nat), .int .i64 l.length, .slice A l.length c, .int .i64 n, .func (.func 88) #[] #[]] ∧ (∀ m (h : m < l.length), m < i → ksS l[m] < n) ∧ (∀ m (h : m < l.length), j ≤ m → ¬ ksS l[m] < n)) (fun us => match us with | .int _ i :: .int _ j :: _ => (j - i).toNat | _ => 0) rfl ⟨rfl, rfl, 0, l.length, by omega, by omega, rfl, by omega, by omega⟩ ?_
  rintro us G' μ' ⟨rfl, rfl, i, j, hij, hj, rfl, h1, h2⟩
  have qp := fun (m : Nat) (h : m < l.length) => splace1_s G' l[m] n
  have em : ((((i : Nat) : Int) + ((j : Nat) : Int)) / 2).toNat = (i + j) / 2 := by omega
  repeat' (first | apply v_seq | apply v_region | apply v_nil | apply v_skip | apply v_block | apply v_blk | (apply v_exit; (case hp => rfl)) | (apply v_take; (case hg => rfl)) | (apply v_pass; (case hg => rfl); (case hn => rfl); (case hd => rfl)) | (apply v_pure; (case hop => first | (apply p_move <;> rfl) | (apply p_eq <;> rfl) | (apply p_lt <;> rfl) | (apply p_assign <;> rfl) | (apply p_pickT <;> rfl) | (apply p_pickF <;> rfl) | (apply p_add; (case hx => rfl); (case hy => rfl); (case h => omega)) | (apply p_indexAddrS; (case hx => rfl); (case hi => rfl); (case h0 => omega); (case h => omega); (case hA => first | (apply_assumption; omega))) | (apply p_conv64; (case hx => rfl); (case h => omega)) | fail); (case hd => rfl)) | (apply v_cond; (case hc => rfl); all_goals (intro h; (try simp only [reduceCtorEq, dec_true, dec_false, decide_eq_true_eq, decide_eq_false_iff_not, Bool.not_eq_true', Bool.not_eq_false', Option.isNone_iff_eq_none, beq_true, beq_false, beq_iff_eq, beq_eq_false_iff_ne, ne_eq, decide_eq_decide, Bool.not_eq_true, Bool.not_eq_false, Decidable.not_not] at h); first | skip)) | (apply v_guardB; (case h1 => rfl); (case h2 => rfl); all_goals (intro h; (try simp only [reduceCtorEq, dec_true, dec_false, decide_eq_true_eq, decide_eq_false_iff_not, Bool.not_eq_true', Bool.not_eq_false', Option.isNone_iff_eq_none, beq_true, beq_false, beq_iff_eq, beq_eq_false_iff_ne, ne_eq, decide_eq_decide, Bool.not_eq_true, Bool.not_eq_false, Decidable.not_not] at h); first | skip)) | (apply v_pure; (case hop => (apply p_convUW; (case hx => rfl); (case h => omega))); (case hd => rfl)) | (apply v_pure; (case hop => (apply p_addw; (case hx => rfl); (case hy => rfl))); (case hd => rfl)) | (apply v_pure; (case hop => (apply p_shr1; (case hx => rfl); (case hy => rfl))); (case hd => rfl)) | (apply v_read; (case hop => (apply r_loadN; rfl; exact CellsAt.frozen (hcp _ (by omega)); rfl)); (case hd => rfl)) | (apply v_callFJ0 (hs := qp ((((i : Nat) : Int) + ((j : Nat) : Int)) / 2).toNat (by omega)); (case hx => rfl); (case ha => rfl); (case hd => rfl)) | (apply v_callFJ0 (hs := qp i (by omega)); (case hx => rfl); (case ha => rfl); (case hd => rfl)) | fail)
  · have hc : ksS (l[(i + j) / 2]'(by omega)) < n := by
      have h0 := cmpK_lt.1 ‹cmpK _ _ < 0›
      simpa only [em] using h0
    refine v_again rfl ⟨rfl, rfl, (i + j) / 2 + 1, j, by omega, hj, rfl, fun m hm hlt => ?_, h2⟩ ?_
    · by_cases he : m = (i + j) / 2
      · subst he; exact hc
      · have := hr m ((i + j) / 2) (by omega) (by omega)
        omega
    · simp only; omega
  · have hc : ¬ ksS (l[(i + j) / 2]'(by omega)) < n := by
      have h0 := mt cmpK_lt.2 ‹¬ cmpK _ _ < 0›
      simpa only [em] using h0
    refine v_again rfl ⟨rfl, rfl, i, (i + j) / 2, by omega, by omega, rfl, h1, fun m hm hlt => ?_⟩ ?_
    · by_cases he : m = (i + j) / 2
      · subst he; exact hc
      · have := hr ((i + j) / 2) m hm (by omega)
        omega
    · simp only; omega
  · have hp : placeG ksS l n = i := placeG_eq (by omega) h1 (fun m h hm => h2 m h (by omega))
    refine v_ret [] (outsA2 rfl rfl rfl) (by repeat (first | exact List.Sublist.refl _ | fail)) ?_
    refine ⟨?_, rfl⟩
    unfold hitG
    simp only [hp]
    rw [dif_pos (by omega)]
    congr 5
    rw [Bool.eq_iff_iff, dec_true, decide_eq_true_iff, cmpK_eq]
  · have hp : placeG ksS l n = i := placeG_eq (by omega) h1 (fun m h hm => h2 m h (by omega))
    refine v_ret [] (outsA2 rfl rfl rfl) (by repeat (first | exact List.Sublist.refl _ | fail)) ?_
    refine ⟨?_, rfl⟩
    unfold hitG
    simp only [hp]
    rw [dif_neg (by omega)]
abbrev ksP (x : Pr) : Int := kn x.key
theorem pplace1_s (G : GH) (x : Pr) (k : ByteArray) (hx : x.key.size ≤ 200) (hk : k.size ≤ 200) : Con Tryz.prog 108 #[.agg x.cells.toArray, .string k] G [] (Just (.int .i64 (cmpK (ksP x) (kn k))) G) := by
  have qc := strCmp_s (G := G) hx hk
  apply Con.just
  (refine v_enter Tryz.func108 rfl Tryz.ntmps108 rfl ?_; intro B _)
  repeat' (first | apply v_seq | apply v_region | apply v_nil | (apply v_pure; (case hop => first | (apply p_move <;> rfl) | (apply p_assign <;> rfl) | (apply p_fieldAddrB <;> rfl) | fail); (case hd => rfl)) | (apply v_box (zs := x.cells); (case hx => rfl); (case hz => rfl); (case hd => rfl); intro b) | (apply v_callJ (hs := qc); (case ha => rfl); (case hd => rfl)) | (apply v_read; (case hop => first | (apply r_load1; rfl; (apply Cell.own; (case h => (repeat (first | exact List.Mem.head _ | fail))); rfl)) | fail); (case hd => rfl)) | fail)
  refine v_ret [] (outsA1 rfl rfl) (by repeat (first | exact List.nil_sublist _ | fail)) ?_
  exact ⟨rfl, rfl⟩
theorem prSearch_s {G : GH} {l : List Pr} {sv : Value} (k : ByteArray) (hs : Prs G sv l) (hr : RiseG ksP l) (hz : ∀ x ∈ l, x.key.size ≤ 200) (hk : k.size ≤ 200) : Con Tryz.prog 107 #[sv, .string k, .func (.func 108) #[] #[]] G [] (Just (.tuple [.int .i64 (placeG ksP l (kn k) : Nat), .bool (hitG ksP l (kn k))].toArray) G) := by
  obtain ⟨A, c, rfl, hlc, hcm, hsome, hcp⟩ := rowOpen hs
  simp only [maxLen] at hcm
  apply Con.just
  (refine v_enter Tryz.func107 rfl Tryz.ntmps107 rfl ?_; intro B _)
  repeat' (first | apply v_seq | apply v_region | apply v_nil | apply v_block | (apply v_pure; (case hop => first | (apply p_move <;> rfl) | (apply p_assign <;> rfl) | (apply p_lenSlice <;> rfl) | fail); (case hd => rfl)) | fail)
  refine v_loop [9, 10, 8, 0, 1, 2] (fun us G' μ' => G' = G ∧ μ' = [] ∧ ∃ i j : Nat, i ≤ j ∧ j ≤ l.length ∧ us = [Value.int .i64 (i : Nat), .int .i64 (j : Nat), .int .i64 l.length, .slice A l.length c, .string k, .func (.func 108) #[] #[]] ∧ (∀ m (h : m < l.length), m < i → ksP l[m] < (kn k)) ∧ (∀ m (h : m < l.length), j ≤ m → ¬ ksP l[m] < (kn k))) (fun us => match us with | .int _ i :: .int _ j :: _ => (j - i).toNat | _ => 0) rfl ⟨rfl, rfl, 0, l.length, by omega, by omega, rfl, by omega, by omega⟩ ?_
  rintro us G' μ' ⟨rfl, rfl, i, j, hij, hj, rfl, h1, h2⟩
  have qp := fun (m : Nat) (h : m < l.length) => pplace1_s G' l[m] k (hz _ (List.getElem_mem h)) hk
  have em : ((((i : Nat) : Int) + ((j : Nat) : Int)) / 2).toNat = (i + j) / 2 := by omega
  repeat' (first | apply v_seq | apply v_region | apply v_nil | apply v_skip | apply v_block | apply v_blk | (apply v_exit; (case hp => rfl)) | (apply v_take; (case hg => rfl)) | (apply v_pass; (case hg => rfl); (case hn => rfl); (case hd => rfl)) | (apply v_pure; (case hop => first | (apply p_move <;> rfl) | (apply p_eq <;> rfl) | (apply p_lt <;> rfl) | (apply p_assign <;> rfl) | (apply p_pickT <;> rfl) | (apply p_pickF <;> rfl) | (apply p_add; (case hx => rfl); (case hy => rfl); (case h => omega)) | (apply p_indexAddrS; (case hx => rfl); (case hi => rfl); (case h0 => omega); (case h => omega); (case hA => first | (apply_assumption; omega))) | (apply p_conv64; (case hx => rfl); (case h => omega)) | fail); (case hd => rfl)) | (apply v_cond; (case hc => rfl); all_goals (intro h; (try simp only [reduceCtorEq, dec_true, dec_false, decide_eq_true_eq, decide_eq_false_iff_not, Bool.not_eq_true', Bool.not_eq_false', Option.isNone_iff_eq_none, beq_true, beq_false, beq_iff_eq, beq_eq_false_iff_ne, ne_eq, decide_eq_decide, Bool.not_eq_true, Bool.not_eq_false, Decidable.not_not] at h); first | skip)) | (apply v_guardB; (case h1 => rfl); (case h2 => rfl); all_goals (intro h; (try simp only [reduceCtorEq, dec_true, dec_false, decide_eq_true_eq, decide_eq_false_iff_not, Bool.not_eq_true', Bool.not_eq_false', Option.isNone_iff_eq_none, beq_true, beq_false, beq_iff_eq, beq_eq_false_iff_ne, ne_eq, decide_eq_decide, Bool.not_eq_true, Bool.not_eq_false, Decidable.not_not] at h); first | skip)) | (apply v_pure; (case hop => (apply p_convUW; (case hx => rfl); (case h => omega))); (case hd => rfl)) | (apply v_pure; (case hop => (apply p_addw; (case hx => rfl); (case hy => rfl))); (case hd => rfl)) | (apply v_pure; (case hop => (apply p_shr1; (case hx => rfl); (case hy => rfl))); (case hd => rfl)) | (apply v_read; (case hop => (apply r_loadN; rfl; exact CellsAt.frozen (hcp _ (by omega)); rfl)); (case hd => rfl)) | (apply v_callFJ0 (hs := qp ((((i : Nat) : Int) + ((j : Nat) : Int)) / 2).toNat (by omega)); (case hx => rfl); (case ha => rfl); (case hd => rfl)) | (apply v_callFJ0 (hs := qp i (by omega)); (case hx => rfl); (case ha => rfl); (case hd => rfl)) | fail)
  · have hc : ksP (l[(i + j) / 2]'(by omega)) < (kn k) := by
      have h0 := cmpK_lt.1 ‹cmpK _ _ < 0›
      simpa only [em] using h0
    refine v_again rfl ⟨rfl, rfl, (i + j) / 2 + 1, j, by omega, hj, rfl, fun m hm hlt => ?_, h2⟩ ?_
    · by_cases he : m = (i + j) / 2
      · subst he; exact hc
      · have := hr m ((i + j) / 2) (by omega) (by omega)
        omega
    · simp only; omega
  · have hc : ¬ ksP (l[(i + j) / 2]'(by omega)) < (kn k) := by
      have h0 := mt cmpK_lt.2 ‹¬ cmpK _ _ < 0›
      simpa only [em] using h0
    refine v_again rfl ⟨rfl, rfl, i, (i + j) / 2, by omega, by omega, rfl, h1, fun m hm hlt => ?_⟩ ?_
    · by_cases he : m = (i + j) / 2
      · subst he; exact hc
      · have := hr ((i + j) / 2) m hm (by omega)
        omega
    · simp only; omega
  · have hp : placeG ksP l (kn k) = i := placeG_eq (by omega) h1 (fun m h hm => h2 m h (by omega))
    refine v_ret [] (outsA2 rfl rfl rfl) (by repeat (first | exact List.Sublist.refl _ | fail)) ?_
    refine ⟨?_, rfl⟩
    unfold hitG
    simp only [hp]
    rw [dif_pos (by omega)]
    congr 5
    rw [Bool.eq_iff_iff, dec_true, decide_eq_true_iff, cmpK_eq]
  · have hp : placeG ksP l (kn k) = i := placeG_eq (by omega) h1 (fun m h hm => h2 m h (by omega))
    refine v_ret [] (outsA2 rfl rfl rfl) (by repeat (first | exact List.Sublist.refl _ | fail)) ?_
    refine ⟨?_, rfl⟩
    unfold hitG
    simp only [hp]
    rw [dif_neg (by omega)]
theorem pset1_s (G : GH) (x y : Pr) (hx : x.key.size ≤ 200) (hy : y.key.size ≤ 200) : Con Tryz.prog 104 #[.agg x.cells.toArray, .agg y.cells.toArray] G [] (Just (.int .i64 (cmpK (ksP x) (kn y.key))) G) := by
  apply Con.just
  (refine v_enter Tryz.func104 rfl Tryz.ntmps104 rfl ?_; intro B _)
  repeat' (first | (apply v_pure; (case hop => (apply p_ltK; (case hx => rfl); (case hy => rfl); (case ha => assumption); (case hb => assumption))); (case hd => rfl)) | (apply v_pure; (case hop => (apply p_gtK; (case hx => rfl); (case hy => rfl); (case ha => assumption); (case hb => assumption))); (case hd => rfl)) | (apply v_box (zs := x.cells); (case hx => rfl); (case hz => rfl); (case hd => rfl); intro b) | (apply v_box (zs := y.cells); (case hx => rfl); (case hz => rfl); (case hd => rfl); intro b2) | apply v_seq | apply v_region | apply v_nil | apply v_skip | apply v_block | apply v_blk | (apply v_pure; (case hop => first | (apply p_assign <;> rfl) | (apply p_fieldAddrB <;> rfl) | fail); (case hd => rfl)) | (apply v_cond; (case hc => rfl); all_goals (intro h; (try simp only [reduceCtorEq, dec_true, dec_false, decide_eq_true_eq, decide_eq_false_iff_not, Bool.not_eq_true', Bool.not_eq_false', Option.isNone_iff_eq_none, beq_true, beq_false, beq_iff_eq, beq_eq_false_iff_ne, ne_eq, decide_eq_decide, Bool.not_eq_true, Bool.not_eq_false, Decidable.not_not] at h); first | skip)) | (apply v_read; (case hop => first | (apply r_load1; rfl; (apply Cell.own; (case h => (repeat (first | exact List.Mem.head _ | apply List.Mem.tail | fail))); rfl)) | fail); (case hd => rfl)) | fail)
  all_goals
    (refine v_ret [] (outsA1 rfl rfl) (by repeat (first | exact List.nil_sublist _ | fail)) ?_
     refine ⟨?_, rfl⟩
     unfold cmpK
     first
       | (rw [if_pos (by assumption)]; done)
       | (rw [if_neg (by assumption), if_pos (by assumption)]; done)
       | (rw [if_neg (by assumption), if_neg (by assumption)]; done))
theorem prSearch2_s {G : GH} {l : List Pr} {sv : Value} (y : Pr) (hs : Prs G sv l) (hr : RiseG ksP l) (hz : ∀ x ∈ l, x.key.size ≤ 200) (hk : y.key.size ≤ 200) : Con Tryz.prog 103 #[sv, .agg y.cells.toArray, .func (.func 104) #[] #[]] G [] (Just (.tuple [.int .i64 (placeG ksP l (kn y.key) : Nat), .bool (hitG ksP l (kn y.key))].toArray) G) := by
  obtain ⟨A, c, rfl, hlc, hcm, hsome, hcp⟩ := rowOpen hs
  simp only [maxLen] at hcm
  apply Con.just
  (refine v_enter Tryz.func103 rfl Tryz.ntmps103 rfl ?_; intro B _)
  repeat' (first | (apply v_box (zs := y.cells); (case hx => rfl); (case hz => rfl); (case hd => rfl); intro bt) | apply v_seq | apply v_region | apply v_nil | apply v_block | (apply v_pure; (case hop => first | (apply p_move <;> rfl) | (apply p_assign <;> rfl) | (apply p_lenSlice <;> rfl) | fail); (case hd => rfl)) | fail)
  refine v_loop [9, 10, 8, 0, 4, 2] (fun us G' μ' => G' = G ∧ μ' = [(bt, .cells y.cells.toArray 65 (0, 0))] ∧ ∃ i j : Nat, i ≤ j ∧ j ≤ l.length ∧ us = [Value.int .i64 (i : Nat), .int .i64 (j : Nat), .int .i64 l.length, .slice A l.length c, .pointer (some ⟨bt, 0, none⟩), .func (.func 104) #[] #[]] ∧ (∀ m (h : m < l.length), m < i → ksP l[m] < (kn y.key)) ∧ (∀ m (h : m < l.length), j ≤ m → ¬ ksP l[m] < (kn y.key))) (fun us => match us with | .int _ i :: .int _ j :: _ => (j - i).toNat | _ => 0) rfl ⟨rfl, rfl, 0, l.length, by omega, by omega, rfl, by omega, by omega⟩ ?_
  rintro us G' _ ⟨rfl, rfl, i, j, hij, hj, rfl, h1, h2⟩
  have qp := fun (m : Nat) (h : m < l.length) => pset1_s G' l[m] y (hz _ (List.getElem_mem h)) hk
  have em : ((((i : Nat) : Int) + ((j : Nat) : Int)) / 2).toNat = (i + j) / 2 := by omega
  repeat' (first | apply v_seq | apply v_region | apply v_nil | apply v_skip | apply v_block | (apply v_exit; (case hp => rfl)) | (apply v_pure; (case hop => first | (apply p_move <;> rfl) | (apply p_lt <;> rfl) | (apply p_assign <;> rfl) | (apply p_conv64; (case hx => rfl); (case h => omega)) | fail); (case hd => rfl)) | (apply v_cond; (case hc => rfl); all_goals (intro h; (try simp only [reduceCtorEq, dec_true, dec_false, decide_eq_true_eq, decide_eq_false_iff_not, Bool.not_eq_true', Bool.not_eq_false', Option.isNone_iff_eq_none, beq_true, beq_false, beq_iff_eq, beq_eq_false_iff_ne, ne_eq, decide_eq_decide, Bool.not_eq_true, Bool.not_eq_false, Decidable.not_not] at h); first | skip)) | (apply v_pure; (case hop => (apply p_convUW; (case hx => rfl); (case h => omega))); (case hd => rfl)) | (apply v_pure; (case hop => (apply p_addw; (case hx => rfl); (case hy => rfl))); (case hd => rfl)) | (apply v_pure; (case hop => (apply p_shr1; (case hx => rfl); (case hy => rfl))); (case hd => rfl)) | fail)
  · refine d_start [(bt, .cells y.cells.toArray 65 (0, 0))] (by kernel_rfl) (by kernel_rfl) (by kernel_rfl) (by intro e he; first | exact he | fail) ?_
    all_goals (first | (apply d_take 0; (case hi => rfl); (case hop => first | (apply PureOp.read; apply p_move <;> rfl)); (case hf => kernel_rfl); (case hr => kernel_rfl); (case hd => rfl)) | fail)
    all_goals (first | (apply d_take 1; (case hi => rfl); (case hop => first | (apply PureOp.read; apply p_move <;> rfl)); (case hf => kernel_rfl); (case hr => kernel_rfl); (case hd => rfl)) | fail)
    all_goals (first | (apply d_take 2; (case hi => rfl); (case hop => first | (apply PureOp.read; apply p_move <;> rfl)); (case hf => kernel_rfl); (case hr => kernel_rfl); (case hd => rfl)) | fail)
    all_goals (first | (apply d_take 3; (case hi => rfl); (case hop => first | (apply PureOp.read; apply p_indexAddrS; (case hx => rfl); (case hi => rfl); (case h0 => omega); (case h => omega); (case hA => first | (apply_assumption; omega)))); (case hf => kernel_rfl); (case hr => kernel_rfl); (case hd => rfl)) | fail)
    all_goals (first | (apply d_take 4; (case hi => rfl); (case hop => first | ((apply r_loadN; rfl; exact CellsAt.frozen (hcp _ (by omega)); rfl)) | fail); (case hf => kernel_rfl); (case hr => kernel_rfl); (case hd => rfl)) | fail)
    all_goals (first | (apply d_take 5; (case hi => rfl); (case hop => first | (apply r_loadNo; (case hx => rfl); (case h => (repeat (first | exact List.Mem.head _ | fail))); (case hd => (repeat (first | with_reducible exact dt_nil | apply dt_here | fail))); (case hn => rfl)) | fail); (case hf => kernel_rfl); (case hr => kernel_rfl); (case hd => rfl)) | fail)
    all_goals (first | (apply d_callJ0 6 (hs := (qp ((((i : Nat) : Int) + ((j : Nat) : Int)) / 2).toNat (by omega))); (case hi => rfl); (case hr => kernel_rfl); (case hx => rfl); (case ha => rfl); (case hd => rfl)) | fail)
    all_goals (first | (apply d_take 7; (case hi => rfl); (case hop => first | (apply PureOp.read; apply p_lt <;> rfl)); (case hf => kernel_rfl); (case hr => kernel_rfl); (case hd => rfl)) | fail)
    all_goals (apply d_done; (case hr => kernel_rfl))
    repeat' (first | apply v_region | apply v_nil | apply v_blk | (apply v_pure; (case hop => first | (apply p_move <;> rfl) | (apply p_assign <;> rfl) | (apply p_add; (case hx => rfl); (case hy => rfl); (case h => omega)) | fail); (case hd => rfl)) | (apply v_cond; (case hc => rfl); all_goals (intro h; (try simp only [reduceCtorEq, dec_true, dec_false, decide_eq_true_eq, decide_eq_false_iff_not, Bool.not_eq_true', Bool.not_eq_false', Option.isNone_iff_eq_none, beq_true, beq_false, beq_iff_eq, beq_eq_false_iff_ne, ne_eq, decide_eq_decide, Bool.not_eq_true, Bool.not_eq_false, Decidable.not_not] at h); first | skip)) | fail)
    · have hc : ksP (l[(i + j) / 2]'(by omega)) < (kn y.key) := by
        have h0 := cmpK_lt.1 ‹cmpK _ _ < 0›
        simpa only [em] using h0
      refine v_again rfl ⟨rfl, rfl, (i + j) / 2 + 1, j, by omega, hj, rfl, fun m hm hlt => ?_, h2⟩ ?_
      · by_cases he : m = (i + j) / 2
        · subst he; exact hc
        · have := hr m ((i + j) / 2) (by omega) (by omega)
          omega
      · simp only; omega
    · have hc : ¬ ksP (l[(i + j) / 2]'(by omega)) < (kn y.key) := by
        have h0 := mt cmpK_lt.2 ‹¬ cmpK _ _ < 0›
        simpa only [em] using h0
      refine v_again rfl ⟨rfl, rfl, i, (i + j) / 2, by omega, by omega, rfl, h1, fun m hm hlt => ?_⟩ ?_
      · by_cases he : m = (i + j) / 2
        · subst he; exact hc
        · have := hr ((i + j) / 2) m hm (by omega)
          omega
      · simp only; omega
  · refine d_start [(bt, .cells y.cells.toArray 65 (0, 0))] (by kernel_rfl) (by kernel_rfl) (by kernel_rfl) (by intro e he; first | exact he | fail) ?_
    all_goals (first | (apply d_take 0; (case hi => rfl); (case hop => first | (apply PureOp.read; apply p_move <;> rfl)); (case hf => kernel_rfl); (case hr => kernel_rfl); (case hd => rfl)) | fail)
    all_goals (first | (apply d_take 1; (case hi => rfl); (case hop => first | (apply PureOp.read; apply p_move <;> rfl)); (case hf => kernel_rfl); (case hr => kernel_rfl); (case hd => rfl)) | fail)
    all_goals (first | (apply d_take 2; (case hi => rfl); (case hop => first | (apply PureOp.read; apply p_move <;> rfl)); (case hf => kernel_rfl); (case hr => kernel_rfl); (case hd => rfl)) | fail)
    all_goals (first | (apply d_take 3; (case hi => rfl); (case hop => first | (apply PureOp.read; apply p_lt <;> rfl)); (case hf => kernel_rfl); (case hr => kernel_rfl); (case hd => rfl)) | fail)
    all_goals (first | (apply d_take 4; (case hi => rfl); (case hop => first | (apply PureOp.read; apply p_move <;> rfl)); (case hf => kernel_rfl); (case hr => kernel_rfl); (case hd => rfl)) | fail)
    all_goals (try (apply d_guardB 5; (case hi => rfl); (case hgd => rfl); (case h1 => rfl); (case h2 => first | rfl); all_goals (intro h; (try simp only [reduceCtorEq, dec_true, dec_false, decide_eq_true_eq, decide_eq_false_iff_not, Bool.not_eq_true', Bool.not_eq_false', Option.isNone_iff_eq_none, beq_true, beq_false, beq_iff_eq, beq_eq_false_iff_ne, ne_eq, decide_eq_decide, Bool.not_eq_true, Bool.not_eq_false, Decidable.not_not] at h); first | skip)))
    all_goals (first | (apply d_pass 5; (case hi => rfl); (case hg => rfl); (case hn => rfl); (case hf => kernel_rfl); (case hr => kernel_rfl); (case hd => rfl)) | (apply d_takeG 5; (case hi => rfl); (case hg => rfl); (case hop => first | (apply PureOp.read; apply p_move <;> rfl)); (case hf => kernel_rfl); (case hr => kernel_rfl); (case hd => rfl)) | fail)
    all_goals (try (apply d_guardB 6; (case hi => rfl); (case hgd => rfl); (case h1 => rfl); (case h2 => first | rfl); all_goals (intro h; (try simp only [reduceCtorEq, dec_true, dec_false, decide_eq_true_eq, decide_eq_false_iff_not, Bool.not_eq_true', Bool.not_eq_false', Option.isNone_iff_eq_none, beq_true, beq_false, beq_iff_eq, beq_eq_false_iff_ne, ne_eq, decide_eq_decide, Bool.not_eq_true, Bool.not_eq_false, Decidable.not_not] at h); first | done | skip)))
    all_goals (first | (apply d_pass 6; (case hi => rfl); (case hg => rfl); (case hn => rfl); (case hf => kernel_rfl); (case hr => kernel_rfl); (case hd => rfl)) | (apply d_takeG 6; (case hi => rfl); (case hg => rfl); (case hop => first | (apply PureOp.read; apply p_move <;> rfl)); (case hf => kernel_rfl); (case hr => kernel_rfl); (case hd => rfl)) | fail)
    all_goals (try (apply d_guardB 7; (case hi => rfl); (case hgd => rfl); (case h1 => rfl); (case h2 => first | rfl); all_goals (intro h; (try simp only [reduceCtorEq, dec_true, dec_false, decide_eq_true_eq, decide_eq_false_iff_not, Bool.not_eq_true', Bool.not_eq_false', Option.isNone_iff_eq_none, beq_true, beq_false, beq_iff_eq, beq_eq_false_iff_ne, ne_eq, decide_eq_decide, Bool.not_eq_true, Bool.not_eq_false, Decidable.not_not] at h); first | done | skip)))
    all_goals (first | (apply d_pass 7; (case hi => rfl); (case hg => rfl); (case hn => rfl); (case hf => kernel_rfl); (case hr => kernel_rfl); (case hd => rfl)) | (apply d_takeG 7; (case hi => rfl); (case hg => rfl); (case hop => first | (apply PureOp.read; apply p_move <;> rfl)); (case hf => kernel_rfl); (case hr => kernel_rfl); (case hd => rfl)) | fail)
    all_goals (try (apply d_guardB 8; (case hi => rfl); (case hgd => rfl); (case h1 => rfl); (case h2 => first | rfl); all_goals (intro h; (try simp only [reduceCtorEq, dec_true, dec_false, decide_eq_true_eq, decide_eq_false_iff_not, Bool.not_eq_true', Bool.not_eq_false', Option.isNone_iff_eq_none, beq_true, beq_false, beq_iff_eq, beq_eq_false_iff_ne, ne_eq, decide_eq_decide, Bool.not_eq_true, Bool.not_eq_false, Decidable.not_not] at h); first | done | skip)))
    all_goals (first | (apply d_pass 8; (case hi => rfl); (case hg => rfl); (case hn => rfl); (case hf => kernel_rfl); (case hr => kernel_rfl); (case hd => rfl)) | (apply d_takeG 8; (case hi => rfl); (case hg => rfl); (case hop => first | (apply PureOp.read; apply p_indexAddrS; (case hx => rfl); (case hi => rfl); (case h0 => omega); (case h => omega); (case hA => first | (apply_assumption; omega)))); (case hf => kernel_rfl); (case hr => kernel_rfl); (case hd => rfl)) | fail)
    all_goals (try (apply d_guardB 9; (case hi => rfl); (case hgd => rfl); (case h1 => rfl); (case h2 => first | rfl); all_goals (intro h; (try simp only [reduceCtorEq, dec_true, dec_false, decide_eq_true_eq, decide_eq_false_iff_not, Bool.not_eq_true', Bool.not_eq_false', Option.isNone_iff_eq_none, beq_true, beq_false, beq_iff_eq, beq_eq_false_iff_ne, ne_eq, decide_eq_decide, Bool.not_eq_true, Bool.not_eq_false, Decidable.not_not] at h); first | done | skip)))
    all_goals (first | (apply d_pass 9; (case hi => rfl); (case hg => rfl); (case hn => rfl); (case hf => kernel_rfl); (case hr => kernel_rfl); (case hd => rfl)) | (apply d_takeG 9; (case hi => rfl); (case hg => rfl); (case hop => first | ((apply r_loadN; rfl; exact CellsAt.frozen (hcp _ (by omega)); rfl)) | fail); (case hf => kernel_rfl); (case hr => kernel_rfl); (case hd => rfl)) | fail)
    all_goals (try (apply d_guardB 10; (case hi => rfl); (case hgd => rfl); (case h1 => rfl); (case h2 => first | rfl); all_goals (intro h; (try simp only [reduceCtorEq, dec_true, dec_false, decide_eq_true_eq, decide_eq_false_iff_not, Bool.not_eq_true', Bool.not_eq_false', Option.isNone_iff_eq_none, beq_true, beq_false, beq_iff_eq, beq_eq_false_iff_ne, ne_eq, decide_eq_decide, Bool.not_eq_true, Bool.not_eq_false, Decidable.not_not] at h); first | done | skip)))
    all_goals (first | (apply d_pass 10; (case hi => rfl); (case hg => rfl); (case hn => rfl); (case hf => kernel_rfl); (case hr => kernel_rfl); (case hd => rfl)) | (apply d_takeG 10; (case hi => rfl); (case hg => rfl); (case hop => first | (apply r_loadNo; (case hx => rfl); (case h => (repeat (first | exact List.Mem.head _ | fail))); (case hd => (repeat (first | with_reducible exact dt_nil | apply dt_here | fail))); (case hn => rfl)) | fail); (case hf => kernel_rfl); (case hr => kernel_rfl); (case hd => rfl)) | fail)
    all_goals (try (apply d_guardB 11; (case hi => rfl); (case hgd => rfl); (case h1 => rfl); (case h2 => first | rfl); all_goals (intro h; (try simp only [reduceCtorEq, dec_true, dec_false, decide_eq_true_eq, decide_eq_false_iff_not, Bool.not_eq_true', Bool.not_eq_false', Option.isNone_iff_eq_none, beq_true, beq_false, beq_iff_eq, beq_eq_false_iff_ne, ne_eq, decide_eq_decide, Bool.not_eq_true, Bool.not_eq_false, Decidable.not_not] at h); first | done | skip)))
    all_goals (first | (apply d_pass 11; (case hi => rfl); (case hg => rfl); (case hn => rfl); (case hf => kernel_rfl); (case hr => kernel_rfl); (case hd => rfl)) | (apply d_callJ0G 11 (hs := (qp i (by omega))); (case hi => rfl); (case hg => rfl); (case hr => kernel_rfl); (case hx => rfl); (case ha => rfl); (case hd => rfl)) | fail)
    all_goals (try (apply d_guardB 12; (case hi => rfl); (case hgd => rfl); (case h1 => rfl); (case h2 => first | rfl); all_goals (intro h; (try simp only [reduceCtorEq, dec_true, dec_false, decide_eq_true_eq, decide_eq_false_iff_not, Bool.not_eq_true', Bool.not_eq_false', Option.isNone_iff_eq_none, beq_true, beq_false, beq_iff_eq, beq_eq_false_iff_ne, ne_eq, decide_eq_decide, Bool.not_eq_true, Bool.not_eq_false, Decidable.not_not] at h); first | done | skip)))
    all_goals (first | (apply d_pass 12; (case hi => rfl); (case hg => rfl); (case hn => rfl); (case hf => kernel_rfl); (case hr => kernel_rfl); (case hd => rfl)) | (apply d_takeG 12; (case hi => rfl); (case hg => rfl); (case hop => first | (apply PureOp.read; apply p_eq <;> rfl) | fail); (case hf => kernel_rfl); (case hr => kernel_rfl); (case hd => rfl)) | fail)
    all_goals (first | (apply d_take 13; (case hi => rfl); (case hop => first | (apply PureOp.read; apply p_pickT <;> rfl) | (apply PureOp.read; apply p_pickF <;> rfl) | fail); (case hf => kernel_rfl); (case hr => kernel_rfl); (case hd => rfl)) | fail)
    all_goals (first | (apply d_take 14; (case hi => rfl); (case hop => first | (apply PureOp.read; apply p_assign <;> rfl)); (case hf => kernel_rfl); (case hr => kernel_rfl); (case hd => rfl)) | fail)
    all_goals (first | (apply d_take 15; (case hi => rfl); (case hop => first | (apply PureOp.read; apply p_assign <;> rfl)); (case hf => kernel_rfl); (case hr => kernel_rfl); (case hd => rfl)) | fail)
    all_goals (apply d_done; (case hr => kernel_rfl))
    repeat' (fail)
    · have hp : placeG ksP l (kn y.key) = i := placeG_eq (by omega) h1 (fun m h hm => h2 m h (by omega))
      refine v_ret [] (outsA2 rfl rfl rfl) (by repeat (first | exact List.nil_sublist _ | fail)) ?_
      refine ⟨?_, rfl⟩
      unfold hitG
      simp only [hp]
      rw [dif_pos (by omega)]
      congr 5
      rw [Bool.eq_iff_iff, dec_true, decide_eq_true_iff, cmpK_eq]
    · have hp : placeG ksP l (kn y.key) = i := placeG_eq (by omega) h1 (fun m h hm => h2 m h (by omega))
      refine v_ret [] (outsA2 rfl rfl rfl) (by repeat (first | exact List.nil_sublist _ | fail)) ?_
      refine ⟨?_, rfl⟩
      unfold hitG
      simp only [hp]
      rw [dif_neg (by omega)]
end Go.Proofs.YtgflmkhfachlcaaGreatDoor
/-
  VX: make of a slice; copy of nothing; clear of a row's end; results that lie in memory, of several shapes.
-/
set_option linter.unusedVariables false
set_option linter.unusedSimpArgs false
set_option linter.unusedSectionVars false
namespace Go.Vx
open Go
section
attribute [local semireducible] MoveOp ReadOp PureOp
variable {P : Program} {fn : Func} {n : Nat} {B : Base} {Φ : Value → GH → OH → Prop} {k : List It} {rest : List Oper} {all : Array Oper} {σ : Env} {G : GH} {μ : OH} {d : Nat} {t ty : TypeId} {pos : String} {af : Array Edge} {bytes : Nat} {zero : Value}
theorem m_makeSlice {e : TypeId} {agg : Bool} {sz m : Nat} {x y : Operand} {k1 k2 : IntKind} [Ty P t (.slice e)] [Lay P e agg sz bytes zero] (hx : Env.ev σ x = some (.int k1 (m : Nat))) (hy : Env.ev σ y = some (.int k2 (m : Nat))) (hb : bytes * m ≤ 281474976710656) (hm : m ≤ maxLen) :
    MoveOp P (.makeSlice t x y) ty σ G μ (fun v G' μ' => ∃ (b : Nat) (vs : List Value), v = .slice (some ⟨b, 0, none⟩) m m ∧ vs.length = m * sz ∧ G' = G ∧ μ' = (b, .cells vs.toArray e (0, 0)) :: μ) := by
  intro dst pos af g ρ hρ w hw a K Q hK
  obtain ⟨i, hi, hi1, hi2, hi3⟩ := Lay.infoEx (P := P) (t := e) (agg := agg) (size := sz) (bytes := bytes) (zero := zero) inferInstance
  have ht : P.underlying t = some (.slice e) := Ty.h
  simp only [maxLen] at hm
  have hb' : (i.bytes : Int) * (m : Int) ≤ 281474976710656 := by
    have h : ((i.bytes * m : Nat) : Int) ≤ 281474976710656 := by rw [hi2]; omega
    rwa [Int.natCast_mul] at h
  have hr := run_make (P := P) w t e i zero ht hi hi3 k1 k2 m m (by omega) (Int.le_refl _) hb' (by omega)
  simp only [Int.toNat_natCast] at hr
  have hex : (execOp ρ ⟨dst, .makeSlice t x y, ty, pos, af, g⟩).run P w = .ok (.value (.slice (some ⟨w.heap.size, 0, none⟩) m m)) (w.alloc (.cells (madeCells zero.cells (m * i.size)).toList.toArray e)) := by
    simp [execOp, hρ _ _ hx, hρ _ _ hy, hr]
  rw [hex]
  exact hK _ _ G _ (Step.alloc hw _) ⟨_, (madeCells zero.cells (m * i.size)).toList, rfl, by rw [Array.length_toList, size_madeCells, hi1], rfl, rfl⟩
theorem v_makeSlice {e : TypeId} {agg : Bool} {sz m : Nat} {x y : Operand} {k1 k2 : IntKind} [Ty P t (.slice e)] [Lay P e agg sz bytes zero] (hx : Env.ev σ x = some (.int k1 (m : Nat))) (hy : Env.ev σ y = some (.int k2 (m : Nat))) (hb : bytes * m ≤ 281474976710656) (hm : m ≤ maxLen) (hd : Nat.blt d n = true)
    (h : ∀ (b : Nat) (vs : List Value), vs.length = m * sz → Vc P fn n B Φ (.ops all rest :: k) ((d, .slice (some ⟨b, 0, none⟩) m m) :: σ) G ((b, .cells vs.toArray e (0, 0)) :: μ)) : Vc P fn n B Φ (.ops all (⟨some d, .makeSlice t x y, ty, pos, af, none⟩ :: rest) :: k) σ G μ :=
  v_move (m_makeSlice hx hy hb hm) hd fun _ _ _ ⟨b, vs, h1, h2, h3, h4⟩ => by rw [h1, h3, h4]; exact h b vs h2
theorem m_copy0 {e : TypeId} {agg : Bool} {sz : Nat} {y x : Operand} {A A' : Option Addr} {m c c' : Nat} [Ty P t (.slice e)] [Lay P e agg sz bytes zero] (hy : Env.ev σ y = some (.slice A m c)) (hx : Env.ev σ x = some (.slice A' 0 c')) :
    ReadOp P (.call { callee := .builtin .copy, args := #[y, x], argTypes := #[t, t] }) ty σ G μ (.int .i64 0) := by
  intro dst pos af g ρ hρ w hw
  obtain ⟨i, hi, hi1, hi2, hi3⟩ := Lay.infoEx (P := P) (t := e) (agg := agg) (size := sz) (bytes := bytes) (zero := zero) inferInstance
  have ht : P.underlying t = some (.slice e) := Ty.h
  have hr : (Builtin.copy_ #[t, t] ty #[.slice A m c, .slice A' 0 c']).run P w = .ok (.int .i64 0) w := by
    cases A <;> cases A' <;> simp [Builtin.copy_, run_underlying ht, Builtin.lenOf, sizeOf, typeInfo, hi, goInt, Builtin.firstCells, loadCells, loadCellsFrom, storeCells]
  simp only [execOp, resolve, invoke, builtin, Sem.run_bind, Sem.run_pure, Result.andThen_ok, List.map_toArray, List.map_cons, List.map_nil, hρ _ _ hy, hρ _ _ hx, hr]
/-- 'clear(s)' of a row's part. -/
theorem m_clear {e : TypeId} {agg : Bool} {sz : Nat} {x : Operand} {b o m c : Nat} {vs vs' : List Value} {μ' : OH} [Ty P t (.slice e)] [Lay P e agg sz bytes zero] (hx : Env.ev σ x = some (.slice (some ⟨b, o, none⟩) m c)) (hm : 0 < m) (hb : Has μ b vs e) (hz : zero.cells.size = sz) (h1 : ∀ q, (Builtin.zeroCells zero.cells q).toList.all Value.oneCell' = true) (hfit : o + m * sz ≤ vs.length) (hov : over vs o (Builtin.zeroCells zero.cells m).toList = vs') (hu : Upd b (.cells vs'.toArray e (0, 0)) μ μ') :
    MoveOp P (.call { callee := .builtin .clear, args := #[x], argTypes := #[t] }) ty σ G μ (fun v' G' μ'' => v' = .tuple #[] ∧ G' = G ∧ μ'' = μ') := by
  intro dst pos af g ρ hρ w hw a K Q hK
  have ht : P.underlying t = some (.slice e) := Ty.h
  have hlen : (Builtin.zeroCells zero.cells m).toList.length = m * sz := by simp [Builtin.zeroCells, hz]
  have hst := run_storeCells_at P b o e (Builtin.zeroCells zero.cells m).toList 0 vs.toArray w (hw.own b _ hb) (by simp only [Nat.add_zero, List.size_toArray, hlen]; exact hfit) (fun v hv => List.all_eq_true.1 (h1 m) v hv)
  simp only [Nat.add_zero] at hst
  have hov' : (vs.toArray.toList.take o ++ (Builtin.zeroCells zero.cells m).toList ++ vs.toArray.toList.drop (o + (Builtin.zeroCells zero.cells m).toList.length)) = vs' := by rw [← hov]; rfl
  rw [hov'] at hst
  obtain ⟨q, rfl⟩ : ∃ q, m = q + 1 := ⟨m - 1, by omega⟩
  have hr : (Builtin.clear_ #[t] ty #[.slice (some ⟨b, o, none⟩) (q + 1) c]).run P w = .ok (.tuple #[]) (w.setRow b vs'.toArray) := by
    simp [Builtin.clear_, run_underlying ht, run_zeroOf (P := P) (t := e) (agg := agg) (size := sz) (bytes := bytes) (zero := zero), hst]
  have hex : (execOp ρ ⟨dst, .call { callee := .builtin .clear, args := #[x], argTypes := #[t] }, ty, pos, af, g⟩).run P w = .ok (.value (.tuple #[])) (w.setRow b vs'.toArray) := by
    simp only [execOp, resolve, invoke, builtin, Sem.run_bind, Sem.run_pure, Result.andThen_ok, List.map_toArray, List.map_cons, List.map_nil, hρ _ _ hx, hr]
  rw [hex]
  exact hK _ _ G _ (Step.row hw hb hu) ⟨rfl, rfl, rfl⟩
theorem over_nil {vs : List Value} {i : Nat} : over vs i [] = vs := by simp [over]
/-- An append where there is room: in place. -/
theorem m_appendIn {e : TypeId} {agg : Bool} {sz : Nat} {s x : Operand} {b m cap m' : Nat} {u : Value} {vs us vs' : List Value} {μr : OH} [Ty P t (.slice e)] [Lay P e agg sz bytes zero] (hs : Env.ev σ s = some (.slice (some ⟨b, 0, none⟩) m cap)) (hx : Env.ev σ x = some u) (hp : μ.Perm ((b, .cells vs.toArray e (0, 0)) :: μr)) (hsrc : Src G μ u m' sz us) (h1 : us.all Value.oneCell' = true) (hroom : m + m' ≤ cap) (hvs : vs.length = cap * sz) (hov : over vs (m * sz) us = vs') :
    MoveOp P (.call { callee := .builtin .append, args := #[s, x], argTypes := #[t, t] }) ty σ G μ (fun v' G' μ' => v' = .slice (some ⟨b, 0, none⟩) (m + m') cap ∧ G' = G ∧ μ' = (b, .cells vs'.toArray e (0, 0)) :: μr) := by
  subst hov
  intro dst pos af g ρ hρ w hw a K Q hK
  have hw' := hw.perm hp
  obtain ⟨i, hi, hi1, hi2, hi3⟩ := Lay.infoEx (P := P) (t := e) (agg := agg) (size := sz) (bytes := bytes) (zero := zero) inferInstance
  have ht : P.underlying t = some (.slice e) := Ty.h
  obtain ⟨hus, A, c, rfl, hA⟩ := hsrc
  have hex : ∀ (r : Result Value), (Builtin.append_ #[t, t] ty #[.slice (some ⟨b, 0, none⟩) m cap, .slice A m' c]).run P w = r → (execOp ρ ⟨dst, .call { callee := .builtin .append, args := #[s, x], argTypes := #[t, t] }, ty, pos, af, g⟩).run P w = r.andThen fun v w' => .ok (.value v) w' := by
    intro r hr
    subst hr
    simp only [execOp, resolve, invoke, builtin, Sem.run_bind, Sem.run_pure, Result.andThen_ok, List.map_toArray, List.map_cons, List.map_nil, hρ _ _ hs, hρ _ _ hx]
  by_cases hm : m' = 0
  · subst hm
    have hu0 : us = [] := List.eq_nil_of_length_eq_zero (by simpa using hus)
    subst hu0
    have hc1 : m ≤ cap := by omega
    have hr : (Builtin.append_ #[t, t] ty #[.slice (some ⟨b, 0, none⟩) m cap, .slice A 0 c]).run P w = .ok (.slice (some ⟨b, 0, none⟩) m cap) w := by
      cases A <;> simp [Builtin.append_, run_underlying ht, sizeOf, typeInfo, hi, Builtin.lenOf, Builtin.firstCells, loadCells, loadCellsFrom, storeCells, *]
    rw [hex _ hr]
    exact hK _ w G _ ((Step.refl hw').permL hp.symm) ⟨rfl, rfl, by rw [over_nil]⟩
  · obtain ⟨ad, rfl, hcs⟩ := hA (by omega)
    have hnews : ∀ j u, us[j]? = some u → w.cell? (ad.add j) = some u := fun j u hu => hcs j u hu w hw.sees
    have hlus : us.length = m' * i.size := by rw [hus, hi1]
    have hblk : w.heap[b]? = some (.cells vs.toArray e (0, 0)) := hw'.own b _ (by simp)
    have hr := run_append_room (P := P) w t ty e i ht hi b m cap vs.toArray hblk ad m' c us hlus hnews (fun x hx => List.all_eq_true.1 h1 x hx) hroom (by rw [hi1, hus, ← Nat.add_mul, List.size_toArray, hvs]; exact Nat.mul_le_mul_right _ hroom)
    rw [hex _ hr]
    have htake : (vs.toArray.toList.take (m * i.size) ++ us ++ vs.toArray.toList.drop (m * i.size + us.length)) = over vs (m * sz) us := by
      rw [hi1]; rfl
    rw [htake]
    have hst : Step G ((b, .cells vs.toArray e (0, 0)) :: μr) w G ((b, .cells (over vs (m * sz) us).toArray e (0, 0)) :: μr) (w.setRow b (over vs (m * sz) us).toArray) :=
      Step.row hw' (b := b) (vs := vs) (by simp [Has]) (.here _ _)
    exact hK _ _ G _ (hst.permL hp.symm) ⟨rfl, rfl, rfl⟩
theorem p_slice3L {e : TypeId} {agg : Bool} {sz : Nat} {x lo hi mx : Operand} {A : Option Addr} {m c l h q : Nat} {k0 k1 k2 : IntKind} [Ty P t (.slice e)] [Lay P e agg sz bytes zero] (hx : Env.ev σ x = some (.slice A m c)) (hl : Env.ev σ lo = some (.int k0 (l : Nat))) (hh : Env.ev σ hi = some (.int k1 (h : Nat))) (hq : Env.ev σ mx = some (.int k2 (q : Nat)))
    (h0 : l ≤ h) (h1 : h ≤ q) (h2 : q ≤ c) : PureOp P (.slice t x (some lo) (some hi) (some mx)) ty σ (.slice (if q = l then A else A.map (·.add (l * sz))) (h - l) (q - l)) := by
  intro dst pos af g ρ hρ w
  simp [execOp, hρ _ _ hx, hρ _ _ hl, hρ _ _ hh, hρ _ _ hq, Instr.sliceAt, Instr.slice, Instr.sliceBounds, Instr.sliceBound, asIntOf, run_under (P := P) (t := t) (d := .slice e), run_sizeOf (P := P) (t := e) (agg := agg) (size := sz) (bytes := bytes) (zero := zero), h0, h1, h2]
end
section
variable {P : Program} {fn : Func} {n : Nat} {σ : Env} {G : GH} {μ : OH}
theorem outsM_tc {u0 : Nat} {x0 : Value} {a1 b1 sz1 bytes1 : Nat} {zero1 : Value} {vs1 : List Value} {t1 e1 : TypeId} [Lay P t1 true sz1 bytes1 zero1] (hr : fn.results = #[.tmp u0, .cell a1 t1]) (hu0 : Env.get σ u0 = some x0) (ha1 : Env.get σ a1 = some (.pointer (some ⟨b1, 0, none⟩))) (hb1 : Has μ b1 vs1 e1) (hl1 : vs1.length = sz1) : OutsM P fn n σ G μ (.tuple [x0, .agg vs1.toArray].toArray) := by
  intro w hw ds a' ha'
  have h0 := ha'.get _ _ hu0
  subst hl1
  have h1 := ha'.get _ _ ha1
  have g1 : (loadCells ⟨b1, 0, none⟩ vs1.length).run P w = .ok vs1.toArray w := run_loadCells_list w _ vs1 (fun j v hv => CellsAt.own hb1 j v hv w hw)
  simp only [Array.getD_eq_getD_getElem?] at h0 h1
  simp [results, hr, asAddr, loadVar, h0, h1, run_isAgg' (P := P) (t := t1) (agg := true) (size := vs1.length) (bytes := bytes1) (zero := zero1), run_sizeOf (P := P) (t := t1) (agg := true) (size := vs1.length) (bytes := bytes1) (zero := zero1), g1]
theorem outsM_cc {a0 b0 sz0 bytes0 : Nat} {zero0 : Value} {vs0 : List Value} {t0 e0 : TypeId} [Lay P t0 true sz0 bytes0 zero0] {a1 b1 sz1 bytes1 : Nat} {zero1 : Value} {vs1 : List Value} {t1 e1 : TypeId} [Lay P t1 true sz1 bytes1 zero1] (hr : fn.results = #[.cell a0 t0, .cell a1 t1]) (ha0 : Env.get σ a0 = some (.pointer (some ⟨b0, 0, none⟩))) (hb0 : Has μ b0 vs0 e0) (hl0 : vs0.length = sz0) (ha1 : Env.get σ a1 = some (.pointer (some ⟨b1, 0, none⟩))) (hb1 : Has μ b1 vs1 e1) (hl1 : vs1.length = sz1) : OutsM P fn n σ G μ (.tuple [.agg vs0.toArray, .agg vs1.toArray].toArray) := by
  intro w hw ds a' ha'
  subst hl0
  have h0 := ha'.get _ _ ha0
  have g0 : (loadCells ⟨b0, 0, none⟩ vs0.length).run P w = .ok vs0.toArray w := run_loadCells_list w _ vs0 (fun j v hv => CellsAt.own hb0 j v hv w hw)
  subst hl1
  have h1 := ha'.get _ _ ha1
  have g1 : (loadCells ⟨b1, 0, none⟩ vs1.length).run P w = .ok vs1.toArray w := run_loadCells_list w _ vs1 (fun j v hv => CellsAt.own hb1 j v hv w hw)
  simp only [Array.getD_eq_getD_getElem?] at h0 h1
  simp [results, hr, asAddr, loadVar, h0, run_isAgg' (P := P) (t := t0) (agg := true) (size := vs0.length) (bytes := bytes0) (zero := zero0), run_sizeOf (P := P) (t := t0) (agg := true) (size := vs0.length) (bytes := bytes0) (zero := zero0), g0, h1, run_isAgg' (P := P) (t := t1) (agg := true) (size := vs1.length) (bytes := bytes1) (zero := zero1), run_sizeOf (P := P) (t := t1) (agg := true) (size := vs1.length) (bytes := bytes1) (zero := zero1), g1]
theorem outsM_cct {a0 b0 sz0 bytes0 : Nat} {zero0 : Value} {vs0 : List Value} {t0 e0 : TypeId} [Lay P t0 true sz0 bytes0 zero0] {a1 b1 sz1 bytes1 : Nat} {zero1 : Value} {vs1 : List Value} {t1 e1 : TypeId} [Lay P t1 true sz1 bytes1 zero1] {u2 : Nat} {x2 : Value} (hr : fn.results = #[.cell a0 t0, .cell a1 t1, .tmp u2]) (ha0 : Env.get σ a0 = some (.pointer (some ⟨b0, 0, none⟩))) (hb0 : Has μ b0 vs0 e0) (hl0 : vs0.length = sz0) (ha1 : Env.get σ a1 = some (.pointer (some ⟨b1, 0, none⟩))) (hb1 : Has μ b1 vs1 e1) (hl1 : vs1.length = sz1) (hu2 : Env.get σ u2 = some x2) : OutsM P fn n σ G μ (.tuple [.agg vs0.toArray, .agg vs1.toArray, x2].toArray) := by
  intro w hw ds a' ha'
  subst hl0
  have h0 := ha'.get _ _ ha0
  have g0 : (loadCells ⟨b0, 0, none⟩ vs0.length).run P w = .ok vs0.toArray w := run_loadCells_list w _ vs0 (fun j v hv => CellsAt.own hb0 j v hv w hw)
  subst hl1
  have h1 := ha'.get _ _ ha1
  have g1 : (loadCells ⟨b1, 0, none⟩ vs1.length).run P w = .ok vs1.toArray w := run_loadCells_list w _ vs1 (fun j v hv => CellsAt.own hb1 j v hv w hw)
  have h2 := ha'.get _ _ hu2
  simp only [Array.getD_eq_getD_getElem?] at h0 h1 h2
  simp [results, hr, asAddr, loadVar, h0, run_isAgg' (P := P) (t := t0) (agg := true) (size := vs0.length) (bytes := bytes0) (zero := zero0), run_sizeOf (P := P) (t := t0) (agg := true) (size := vs0.length) (bytes := bytes0) (zero := zero0), g0, h1, run_isAgg' (P := P) (t := t1) (agg := true) (size := vs1.length) (bytes := bytes1) (zero := zero1), run_sizeOf (P := P) (t := t1) (agg := true) (size := vs1.length) (bytes := bytes1) (zero := zero1), g1, h2]
theorem outsM_ctt {a0 b0 sz0 bytes0 : Nat} {zero0 : Value} {vs0 : List Value} {t0 e0 : TypeId} [Lay P t0 true sz0 bytes0 zero0] {u1 : Nat} {x1 : Value} {u2 : Nat} {x2 : Value} (hr : fn.results = #[.cell a0 t0, .tmp u1, .tmp u2]) (ha0 : Env.get σ a0 = some (.pointer (some ⟨b0, 0, none⟩))) (hb0 : Has μ b0 vs0 e0) (hl0 : vs0.length = sz0) (hu1 : Env.get σ u1 = some x1) (hu2 : Env.get σ u2 = some x2) : OutsM P fn n σ G μ (.tuple [.agg vs0.toArray, x1, x2].toArray) := by
  intro w hw ds a' ha'
  subst hl0
  have h0 := ha'.get _ _ ha0
  have g0 : (loadCells ⟨b0, 0, none⟩ vs0.length).run P w = .ok vs0.toArray w := run_loadCells_list w _ vs0 (fun j v hv => CellsAt.own hb0 j v hv w hw)
  have h1 := ha'.get _ _ hu1
  have h2 := ha'.get _ _ hu2
  simp only [Array.getD_eq_getD_getElem?] at h0 h1 h2
  simp [results, hr, asAddr, loadVar, h0, run_isAgg' (P := P) (t := t0) (agg := true) (size := vs0.length) (bytes := bytes0) (zero := zero0), run_sizeOf (P := P) (t := t0) (agg := true) (size := vs0.length) (bytes := bytes0) (zero := zero0), g0, h1, h2]
end
end Go.Vx
/-
  The library: slices.Delete of pairs; slices.ContainsFunc.
-/
set_option linter.unusedSimpArgs false
set_option linter.unusedVariables false
namespace Go.Proofs.YtgflmkhfachlcaaGreatDoor
open Go.Vx Go.ChangeShapes Go.WideShapes Go.ChangeAt Go.RowKit
theorem p_sliceLHB {σ : Env} {ty t e : TypeId} {agg : Bool} {sz bytes : Nat} {zero : Value} {x lo hi : Operand} {b o n c : Nat} {k k' : IntKind} {z z' : Int} [Ty Tryz.prog t (.slice e)] [Lay Tryz.prog e agg sz bytes zero] (m h : Nat) (hx : Env.ev σ x = some (.slice (some ⟨b, o, none⟩) n c)) (hl : Env.ev σ lo = some (.int k z)) (hh : Env.ev σ hi = some (.int k' z')) (hz : z = (m : Nat)) (hz' : z' = (h : Nat)) (h1 : m ≤ h) (h2 : h ≤ c) (h3 : m < c) :
    PureOp Tryz.prog (.slice t x (some lo) (some hi) none) ty σ (.slice (some ⟨b, o + m * sz, none⟩) (h - m) (c - m)) := by
  subst hz hz'
  have q := p_sliceLH (P := Tryz.prog) (ty := ty) (t := t) (e := e) (agg := agg) (sz := sz) (bytes := bytes) (zero := zero) hx hl hh (by omega) (by omega) (by omega)
  simp only [Int.toNat_natCast] at q
  rw [if_neg (by omega), Option.map_some, add_mk] at q
  exact q
theorem p_fromE {σ : Env} {ty t e : TypeId} {agg : Bool} {sz bytes : Nat} {zero : Value} {x lo : Operand} {A : Option Addr} {n c : Nat} {k : IntKind} {z : Int} [Ty Tryz.prog t (.slice e)] [Lay Tryz.prog e agg sz bytes zero] (m : Nat) (hx : Env.ev σ x = some (.slice A n c)) (hl : Env.ev σ lo = some (.int k z)) (hz : z = (m : Nat)) (h1 : m ≤ n) (h2 : n ≤ c) :
    PureOp Tryz.prog (.slice t x (some lo) none none) ty σ (.slice (if c = m then A else A.map (·.add (m * sz))) (n - m) (c - m)) := by
  subst hz
  have h := p_sliceL (P := Tryz.prog) (ty := ty) (t := t) (e := e) (agg := agg) (sz := sz) (bytes := bytes) (zero := zero) hx hl (by omega) (by omega) h2
  simpa only [Int.toNat_natCast] using h
theorem over_mid (p x t r : List Value) : over (p ++ (x ++ t) ++ r) p.length t = p ++ t ++ ((x ++ t).drop t.length ++ r) := by
  unfold over
  rw [List.append_assoc p, List.take_left, ← List.drop_drop, List.drop_left, List.drop_append_of_le_length (by rw [List.length_append]; omega)]
theorem over_end (p z q : List Value) (h : z.length ≤ q.length) : over (p ++ q) p.length z = p ++ (z ++ q.drop z.length) := by
  unfold over
  rw [List.take_left, ← List.drop_drop, List.drop_left, List.append_assoc]
theorem zP_one (q : Nat) : (Builtin.zeroCells (Value.cells zP) q).toList.all Value.oneCell' = true := by
  rw [List.all_eq_true]
  intro v hv
  simp only [Builtin.zeroCells, Array.toList_map, List.mem_map, Array.mem_toList_iff] at hv
  obtain ⟨k, -, rfl⟩ := hv
  have hs : (Value.cells zP).size = 3 := rfl
  rw [hs]
  obtain h | h | h : k % 3 = 0 ∨ k % 3 = 1 ∨ k % 3 = 2 := by omega
  · rw [h]; rfl
  · rw [h]; rfl
  · rw [h]; rfl
theorem prDelete_s {G : GH} {l : List Pr} {v : Value} {ν : OH} (i : Nat) (hg : GrP v l ν) (hi : i < l.length) (hn : l.length ≤ 200) :
    Con Tryz.prog 102 #[v, .int .i64 i, .int .i64 ((i : Nat) + 1)] G ν (fun r G' μ' => G' = G ∧ GrP r (l.take i ++ l.drop (i + 1)) μ') := by
  obtain ⟨hxl, ⟨rfl, h0, rfl⟩ | ⟨b, cap, spare, rfl, rfl, hc1, hc2, hc3⟩⟩ := hg
  · omega
  simp only [maxLen] at hc2
  have hlen := rowC_length Pr.len l
  rw [List.length_append, hlen] at hc3
  have tl : (rowC Pr.cells (l.take i)).length = i * 3 := by rw [rowC_length Pr.len, List.length_take, Nat.min_eq_left (by omega)]
  have dl : (rowC Pr.cells (l.drop (i + 1))).length = (l.length - (i + 1)) * 3 := by rw [rowC_length Pr.len, List.length_drop]
  have hsp : rowC Pr.cells l = rowC Pr.cells (l.take i) ++ ((l[i]).cells ++ rowC Pr.cells (l.drop (i + 1))) := by
    rw [← rowC_cons, ← List.drop_eq_getElem_cons hi, ← rowC_append, List.take_append_drop]
  have hov1 : over (rowC Pr.cells l ++ spare) (i * 3) (rowC Pr.cells (l.drop (i + 1))) = rowC Pr.cells (l.take i) ++ rowC Pr.cells (l.drop (i + 1)) ++ (((l[i]).cells ++ rowC Pr.cells (l.drop (i + 1))).drop (rowC Pr.cells (l.drop (i + 1))).length ++ spare) := by
    rw [hsp, ← tl]
    exact over_mid _ _ _ _
  have hrl : (((l[i]).cells ++ rowC Pr.cells (l.drop (i + 1))).drop (rowC Pr.cells (l.drop (i + 1))).length).length = 3 := by
    rw [List.length_drop, List.length_append, Pr.len]; omega
  generalize (((l[i]).cells ++ rowC Pr.cells (l.drop (i + 1))).drop (rowC Pr.cells (l.drop (i + 1))).length) = rest at *
  have hus : ((rowC Pr.cells l ++ spare).drop ((i + 1) * 3)).take ((l.length - (i + 1)) * 3) = rowC Pr.cells (l.drop (i + 1)) := by
    rw [List.drop_append_of_le_length (by omega), rowC_drop Pr.len, List.take_append_of_le_length (by omega), List.take_of_length_le (by omega)]
  have hz : (Builtin.zeroCells (Value.cells zP) 1).toList.length = 3 := by rw [Array.length_toList, size_zeroCells]; rfl
  have hl2 : (rowC Pr.cells (l.take i) ++ rowC Pr.cells (l.drop (i + 1))).length = (l.length - 1) * 3 := by rw [List.length_append, tl, dl]; omega
  have hov2 : over (rowC Pr.cells (l.take i) ++ rowC Pr.cells (l.drop (i + 1)) ++ (rest ++ spare)) ((l.length - 1) * 3) (Builtin.zeroCells (Value.cells zP) 1).toList = (rowC Pr.cells (l.take i) ++ rowC Pr.cells (l.drop (i + 1))) ++ ((Builtin.zeroCells (Value.cells zP) 1).toList ++ (rest ++ spare).drop (Builtin.zeroCells (Value.cells zP) 1).toList.length) := by
    rw [← hl2]
    exact over_end _ _ _ (by rw [hz, List.length_append, hrl]; omega)
  have hone : ∀ q, (Builtin.zeroCells (Value.cells zP) q).toList.all Value.oneCell' = true := zP_one
  (refine v_enter Tryz.func102 rfl Tryz.ntmps102 rfl ?_; intro B _)
  repeat' (first | (apply v_pure; (case hop => (apply p_slice3L (l := i) (h := i + 1) (q := l.length); (case hx => rfl); (case hl => rfl); (case hh => rfl); (case hq => rfl); (case h0 => omega); (case h1 => omega); (case h2 => omega))); (case hd => rfl)) | apply v_seq | apply v_region | apply v_nil | apply v_skip | (apply v_pure; (case hop => first | (apply p_move <;> rfl) | (apply p_eq <;> rfl) | (apply p_assign <;> rfl) | (apply p_lenSlice <;> rfl) | fail); (case hd => rfl)) | (apply v_cond; (case hc => rfl); all_goals (intro h; (try simp only [reduceCtorEq, dec_true, dec_false, decide_eq_true_eq, decide_eq_false_iff_not, Bool.not_eq_true', Bool.not_eq_false', Option.isNone_iff_eq_none, beq_true, beq_false, beq_iff_eq, beq_eq_false_iff_ne, ne_eq, decide_eq_decide, Bool.not_eq_true, Bool.not_eq_false, Decidable.not_not] at h); first | (exfalso; omega) | skip)) | fail)
  by_cases hend : i + 1 < l.length
  · refine d_start [] (by kernel_rfl) (by kernel_rfl) (by kernel_rfl) (by intro e he; first | (simp at he ⊢; try omega)) ?_
    all_goals (first | (apply d_take 0; (case hi => rfl); (case hop => first | (apply PureOp.read; apply p_move <;> rfl)); (case hf => kernel_rfl); (case hr => kernel_rfl); (case hd => rfl)) | fail)
    all_goals (first | (apply d_take 1; (case hi => rfl); (case hop => first | (apply PureOp.read; apply p_move <;> rfl)); (case hf => kernel_rfl); (case hr => kernel_rfl); (case hd => rfl)) | fail)
    all_goals (first | (apply d_take 2; (case hi => rfl); (case hop => first | ((apply PureOp.read; apply p_sliceHB i; (case hx => rfl); (case hl => rfl); (case hz => omega); (case h1 => omega))) | fail); (case hf => kernel_rfl); (case hr => kernel_rfl); (case hd => rfl)) | fail)
    all_goals (first | (apply d_take 3; (case hi => rfl); (case hop => first | (apply PureOp.read; apply p_move <;> rfl)); (case hf => kernel_rfl); (case hr => kernel_rfl); (case hd => rfl)) | fail)
    all_goals (first | (apply d_take 4; (case hi => rfl); (case hop => first | (apply PureOp.read; apply p_move <;> rfl)); (case hf => kernel_rfl); (case hr => kernel_rfl); (case hd => rfl)) | fail)
    all_goals (first | (apply d_take 5; (case hi => rfl); (case hop => first | ((apply PureOp.read; apply p_sliceB (i + 1); (case hx => rfl); (case hl => rfl); (case hz => omega); (case h1 => omega); (case h2 => omega); (case h3 => omega))) | fail); (case hf => kernel_rfl); (case hr => kernel_rfl); (case hd => rfl)) | fail)
    all_goals (first | ((apply d_exec 6; (case hi => rfl); (case hr => kernel_rfl);  (case hop => exact m_appendIn (e := 65) (sz := 3) (m' := l.length - (i + 1)) (us := rowC Pr.cells (l.drop (i + 1))) rfl rfl (List.Perm.refl _) (Src.ownAt (vs := rowC Pr.cells l ++ spare) (e := 65) (by (repeat (first | exact List.Mem.head _ | fail))) (by rw [Nat.zero_add]; exact hus) (by rw [dl])) (rowC_one Pr.one _) (by omega) (by rw [List.length_append, hlen]; omega) hov1); (case hd => rfl); rintro _ _ _ ⟨rfl, hG1, rfl⟩; subst hG1; refine ⟨(by intro e he; cases he), ?_⟩)) | fail)
    all_goals (first | (apply d_take 7; (case hi => rfl); (case hop => first | (apply PureOp.read; apply p_assign <;> rfl)); (case hf => kernel_rfl); (case hr => kernel_rfl); (case hd => rfl)) | fail)
    all_goals (apply d_done; (case hr => kernel_rfl))
    rw [show i + (l.length - (i + 1)) = l.length - 1 by omega]
    repeat' (first | (apply v_pure; (case hop => (apply p_sliceLHB (l.length - 1) l.length; (case hx => rfl); (case hl => rfl); (case hh => rfl); (case hz => omega); (case hz' => omega); (case h1 => omega); (case h2 => omega); (case h3 => omega))); (case hd => rfl)) | apply v_seq | apply v_region | (apply v_pure; (case hop => first | (apply p_move <;> rfl) | (apply p_lenSlice <;> rfl) | fail); (case hd => rfl)) | fail)
    simp only [show l.length - (l.length - 1) = 1 by omega, Nat.zero_add]
    refine v_move0 (m_clear (e := 65) (agg := true) (sz := 3) (bytes := 40) (zero := zP) rfl (by omega) (List.Mem.head _) rfl zP_one (by rw [List.length_append, hl2, List.length_append, hrl]; omega) hov2 (Upd.here _ _)) ?_
    · rintro _ _ _ ⟨-, hG2, rfl⟩
      subst hG2
      repeat' (first | apply v_seq | apply v_region | apply v_nil | (apply v_pure; (case hop => first | (apply p_move <;> rfl) | (apply p_assign <;> rfl) | fail); (case hd => rfl)) | fail)
      refine v_ret [(b, _)] (outsA1 rfl rfl) (List.Sublist.refl _) ⟨rfl, ?_⟩
      have e9 : (l.take i ++ l.drop (i + 1)).length = l.length - 1 := by rw [List.length_append, List.length_take, List.length_drop]; omega
      unfold GrP
      rw [e9, rowC_append]
      refine ⟨hl2, .inr ⟨b, cap, _, rfl, rfl, by omega, by simp only [maxLen]; omega, ?_⟩⟩
      rw [List.length_append, hl2, List.length_append, hz, List.length_drop, List.length_append, hrl]
      omega
  · have hd0 : rowC Pr.cells (l.drop (i + 1)) = [] := by rw [List.drop_eq_nil_of_le (by omega)]; rfl
    have hm0 : l.length - (i + 1) = 0 := by omega
    refine d_start [] (by kernel_rfl) (by kernel_rfl) (by kernel_rfl) (by intro e he; first | (simp at he ⊢; try omega)) ?_
    all_goals (first | (apply d_take 0; (case hi => rfl); (case hop => first | (apply PureOp.read; apply p_move <;> rfl)); (case hf => kernel_rfl); (case hr => kernel_rfl); (case hd => rfl)) | fail)
    all_goals (first | (apply d_take 1; (case hi => rfl); (case hop => first | (apply PureOp.read; apply p_move <;> rfl)); (case hf => kernel_rfl); (case hr => kernel_rfl); (case hd => rfl)) | fail)
    all_goals (first | (apply d_take 2; (case hi => rfl); (case hop => first | ((apply PureOp.read; apply p_sliceHB i; (case hx => rfl); (case hl => rfl); (case hz => omega); (case h1 => omega))) | fail); (case hf => kernel_rfl); (case hr => kernel_rfl); (case hd => rfl)) | fail)
    all_goals (first | (apply d_take 3; (case hi => rfl); (case hop => first | (apply PureOp.read; apply p_move <;> rfl)); (case hf => kernel_rfl); (case hr => kernel_rfl); (case hd => rfl)) | fail)
    all_goals (first | (apply d_take 4; (case hi => rfl); (case hop => first | (apply PureOp.read; apply p_move <;> rfl)); (case hf => kernel_rfl); (case hr => kernel_rfl); (case hd => rfl)) | fail)
    all_goals (first | (apply d_take 5; (case hi => rfl); (case hop => first | ((apply PureOp.read; apply p_fromE (i + 1); (case hx => rfl); (case hl => rfl); (case hz => omega); (case h1 => omega); (case h2 => omega))) | fail); (case hf => kernel_rfl); (case hr => kernel_rfl); (case hd => rfl)) | fail)
    all_goals (first | ((apply d_exec 6; (case hi => rfl); (case hr => kernel_rfl);  (case hop => exact m_appendIn (e := 65) (sz := 3) (m' := l.length - (i + 1)) (us := rowC Pr.cells (l.drop (i + 1))) rfl rfl (List.Perm.refl _) ⟨by rw [hd0, hm0]; rfl, _, _, rfl, fun h => absurd h (by omega)⟩ (rowC_one Pr.one _) (by omega) (by rw [List.length_append, hlen]; omega) hov1); (case hd => rfl); rintro _ _ _ ⟨rfl, hG1, rfl⟩; subst hG1; refine ⟨(by intro e he; cases he), ?_⟩)) | fail)
    all_goals (first | (apply d_take 7; (case hi => rfl); (case hop => first | (apply PureOp.read; apply p_assign <;> rfl)); (case hf => kernel_rfl); (case hr => kernel_rfl); (case hd => rfl)) | fail)
    all_goals (apply d_done; (case hr => kernel_rfl))
    rw [show i + (l.length - (i + 1)) = l.length - 1 by omega]
    repeat' (first | (apply v_pure; (case hop => (apply p_sliceLHB (l.length - 1) l.length; (case hx => rfl); (case hl => rfl); (case hh => rfl); (case hz => omega); (case hz' => omega); (case h1 => omega); (case h2 => omega); (case h3 => omega))); (case hd => rfl)) | apply v_seq | apply v_region | (apply v_pure; (case hop => first | (apply p_move <;> rfl) | (apply p_lenSlice <;> rfl) | fail); (case hd => rfl)) | fail)
    simp only [show l.length - (l.length - 1) = 1 by omega, Nat.zero_add]
    refine v_move0 (m_clear (e := 65) (agg := true) (sz := 3) (bytes := 40) (zero := zP) rfl (by omega) (List.Mem.head _) rfl zP_one (by rw [List.length_append, hl2, List.length_append, hrl]; omega) hov2 (Upd.here _ _)) ?_
    · rintro _ _ _ ⟨-, hG2, rfl⟩
      subst hG2
      repeat' (first | apply v_seq | apply v_region | apply v_nil | (apply v_pure; (case hop => first | (apply p_move <;> rfl) | (apply p_assign <;> rfl) | fail); (case hd => rfl)) | fail)
      refine v_ret [(b, _)] (outsA1 rfl rfl) (List.Sublist.refl _) ⟨rfl, ?_⟩
      have e9 : (l.take i ++ l.drop (i + 1)).length = l.length - 1 := by rw [List.length_append, List.length_take, List.length_drop]; omega
      unfold GrP
      rw [e9, rowC_append]
      refine ⟨hl2, .inr ⟨b, cap, _, rfl, rfl, by omega, by simp only [maxLen]; omega, ?_⟩⟩
      rw [List.length_append, hl2, List.length_append, hz, List.length_drop, List.length_append, hrl]
      omega
end Go.Proofs.YtgflmkhfachlcaaGreatDoor
/-
  kvone, kvtwo (layers 23, 24): whether pairs may be.
-/
set_option linter.unusedSimpArgs false
set_option linter.unusedVariables false
namespace Go.Proofs.YtgflmkhfachlcaaGreatDoor
open Go.Vx Go.ChangeShapes Go.WideShapes Go.ChangeAt Go.RowKit
def revS (x : Ss) : Bool := decide (x.last.rev ≠ 0)
theorem ssRevClos_s (G : GH) (x : Ss) : Con Tryz.prog 38 #[.agg x.cells.toArray] G [] (Just (.bool (revS x)) G) := by
  apply Con.just
  (refine v_enter Tryz.func38 rfl Tryz.ntmps38 rfl ?_; intro B _)
  repeat' (first | (apply v_box (zs := x.cells); (case hx => rfl); (case hz => rfl); (case hd => rfl); intro b) | apply v_seq | apply v_region | apply v_nil | (apply v_pure; (case hop => first | (apply p_ne <;> rfl) | (apply p_assign <;> rfl) | (apply p_fieldAddrB <;> rfl) | fail); (case hd => rfl)) | (apply v_read; (case hop => first | (apply r_load1; rfl; (apply Cell.own; (case h => (repeat (first | exact List.Mem.head _ | fail))); rfl)) | fail); (case hd => rfl)) | fail)
  refine v_ret [] (outsA1 rfl rfl) (by repeat (first | exact List.nil_sublist _ | fail)) ?_
  refine ⟨?_, rfl⟩
  simp [revS, dec_eq]
def oddP (x : Pr) : Bool := decide (x.rev < 1 ∨ 4294967296 < x.rev)
theorem prOddClos_s (G : GH) (x : Pr) : Con Tryz.prog 62 #[.agg x.cells.toArray] G [] (Just (.bool (oddP x)) G) := by
  apply Con.just
  (refine v_enter Tryz.func62 rfl Tryz.ntmps62 rfl ?_; intro B _)
  repeat' (first | (apply v_box (zs := x.cells); (case hx => rfl); (case hz => rfl); (case hd => rfl); intro b) | apply v_seq | apply v_region | apply v_nil | (apply v_take; (case hg => rfl)) | (apply v_pass; (case hg => rfl); (case hn => rfl); (case hd => rfl)) | (apply v_pure; (case hop => first | (apply p_move <;> rfl) | (apply p_lt <;> rfl) | (apply p_gt <;> rfl) | (apply p_assign <;> rfl) | (apply p_pickT <;> rfl) | (apply p_pickF <;> rfl) | (apply p_fieldAddrB <;> rfl) | fail); (case hd => rfl)) | (apply v_guardB; (case h1 => rfl); (case h2 => rfl); all_goals (intro h; (try simp only [reduceCtorEq, dec_true, dec_false, decide_eq_true_eq, decide_eq_false_iff_not, Bool.not_eq_true', Bool.not_eq_false', Option.isNone_iff_eq_none, beq_true, beq_false, beq_iff_eq, beq_eq_false_iff_ne, ne_eq, decide_eq_decide, Bool.not_eq_true, Bool.not_eq_false, Decidable.not_not] at h); first | skip)) | (apply v_read; (case hop => first | (apply r_load1; rfl; (apply Cell.own; (case h => (repeat (first | exact List.Mem.head _ | fail))); rfl)) | fail); (case hd => rfl)) | fail)
  all_goals
    (refine v_ret [] (outsA1 rfl rfl) (by repeat (first | exact List.nil_sublist _ | fail)) ?_
     refine ⟨?_, rfl⟩
     unfold oddP
     congr 1
     rw [Bool.eq_iff_iff]
     simp [dec_eq]
     try omega)
theorem ssRevIndex_s {G : GH} {l : List Ss} {sv : Value} (hs : Sss G sv l) : Con Tryz.prog 59 #[sv, .func (.func 38) #[] #[]] G [] (fun r G' μ' => G' = G ∧ μ' = [] ∧ ∃ z : Int, r = .int .i64 z ∧ (0 ≤ z ↔ l.any revS = true)) := by
  obtain ⟨A, c, rfl, hlc, hcm, hsome, hcp⟩ := rowOpen hs
  simp only [maxLen] at hcm
  (refine v_enter Tryz.func59 rfl Tryz.ntmps59 rfl ?_; intro B _)
  repeat' (first | apply v_seq | apply v_region | apply v_nil | apply v_block | (apply v_pure; (case hop => first | (apply p_move <;> rfl) | (apply p_assign <;> rfl) | (apply p_lenSlice <;> rfl) | fail); (case hd => rfl)) | fail)
  refine v_loop [8, 7, 0, 1] (fun us G' μ' => G' = G ∧ μ' = [] ∧ ∃ k : Nat, k ≤ l.length ∧ us = [Value.int .i64 (k : Nat), .int .i64 (l.length : Nat), .slice A l.length c, .func (.func 38) #[] #[]] ∧ (l.take k).any revS = false) (fun us => l.length - (headI us).toNat) rfl ⟨rfl, rfl, 0, by omega, rfl, by simp⟩ ?_
  rintro us G' μ' ⟨rfl, rfl, k, hk, rfl, hno⟩
  by_cases hlt : k < l.length
  · have e1 : ((k : Nat) : Int).toNat = k := by omega
    have hA := hsome (by omega)
    have hck := hcp k hlt
    have qp := ssRevClos_s G' l[k]
    have hnx : (l.take (k + 1)).any revS = revS l[k] := by rw [List.take_succ_eq_append_getElem hlt, List.any_append, hno]; simp
    have hin : revS l[k] = true → l.any revS = true := fun h => List.any_eq_true.2 ⟨_, List.getElem_mem hlt, h⟩
    generalize l[k] = x at *
    cases hb : revS x with
    | true =>
      rw [hb] at qp
      repeat' (first | apply v_seq | apply v_region | apply v_nil | apply v_skip | apply v_block | (apply v_pure; (case hop => first | (apply p_move <;> rfl) | (apply p_lt <;> rfl) | (apply p_assign <;> rfl) | (apply p_indexAddrS; (case hx => rfl); (case hi => rfl); (case h0 => omega); (case h => omega); (case hA => first | assumption | fail)) | fail); (case hd => rfl)) | (apply v_condT; (case hc => rfl)) | (apply v_cond; (case hc => rfl); all_goals (intro h; (try simp only [reduceCtorEq, dec_true, dec_false, decide_eq_true_eq, decide_eq_false_iff_not, Bool.not_eq_true', Bool.not_eq_false', Option.isNone_iff_eq_none, beq_true, beq_false, beq_iff_eq, beq_eq_false_iff_ne, ne_eq, decide_eq_decide, Bool.not_eq_true, Bool.not_eq_false, Decidable.not_not] at h); first | (exfalso; omega) | skip)) | (apply v_read; (case hop => (apply r_loadN; rfl; exact CellsAt.frozen hck; rfl)); (case hd => rfl)) | (apply v_callFJ0 (hs := qp); (case hx => rfl); (case ha => rfl); (case hd => rfl)) | fail)
      refine v_ret [] (outsA1 rfl rfl) (by repeat (first | exact List.Sublist.refl _ | fail)) ?_
      exact ⟨rfl, rfl, _, rfl, fun _ => hin hb, fun _ => by omega⟩
    | false =>
      rw [hb] at qp hnx
      repeat' (first | apply v_seq | apply v_region | apply v_nil | apply v_skip | apply v_block | apply v_blk | (apply v_pure; (case hop => first | (apply p_move <;> rfl) | (apply p_lt <;> rfl) | (apply p_assign <;> rfl) | (apply p_add; (case hx => rfl); (case hy => rfl); (case h => omega)) | (apply p_indexAddrS; (case hx => rfl); (case hi => rfl); (case h0 => omega); (case h => omega); (case hA => first | assumption | fail)) | fail); (case hd => rfl)) | (apply v_condF; (case hc => rfl)) | (apply v_cond; (case hc => rfl); all_goals (intro h; (try simp only [reduceCtorEq, dec_true, dec_false, decide_eq_true_eq, decide_eq_false_iff_not, Bool.not_eq_true', Bool.not_eq_false', Option.isNone_iff_eq_none, beq_true, beq_false, beq_iff_eq, beq_eq_false_iff_ne, ne_eq, decide_eq_decide, Bool.not_eq_true, Bool.not_eq_false, Decidable.not_not] at h); first | (exfalso; omega) | skip)) | (apply v_read; (case hop => (apply r_loadN; rfl; exact CellsAt.frozen hck; rfl)); (case hd => rfl)) | (apply v_callFJ0 (hs := qp); (case hx => rfl); (case ha => rfl); (case hd => rfl)) | fail)
      exact v_again rfl ⟨rfl, rfl, k + 1, by omega, rfl, hnx⟩ (by simp [headI]; omega)
  · rw [List.take_of_length_le (by omega)] at hno
    repeat' (first | apply v_seq | apply v_region | apply v_nil | (apply v_exit; (case hp => rfl)) | (apply v_pure; (case hop => first | (apply p_lt <;> rfl) | (apply p_assign <;> rfl) | fail); (case hd => rfl)) | (apply v_cond; (case hc => rfl); all_goals (intro h; (try simp only [reduceCtorEq, dec_true, dec_false, decide_eq_true_eq, decide_eq_false_iff_not, Bool.not_eq_true', Bool.not_eq_false', Option.isNone_iff_eq_none, beq_true, beq_false, beq_iff_eq, beq_eq_false_iff_ne, ne_eq, decide_eq_decide, Bool.not_eq_true, Bool.not_eq_false, Decidable.not_not] at h); first | (exfalso; omega) | skip)) | fail)
    refine v_ret [] (outsA1 rfl rfl) (by repeat (first | exact List.Sublist.refl _ | fail)) ?_
    exact ⟨rfl, rfl, _, rfl, fun h => by omega, fun h => by rw [hno] at h; cases h⟩
theorem ssRevHas_s {G : GH} {l : List Ss} {sv : Value} (hs : Sss G sv l) : Con Tryz.prog 37 #[sv, .func (.func 38) #[] #[]] G [] (Just (.bool (l.any revS)) G) := by
  have q := ssRevIndex_s hs
  (refine v_enter Tryz.func37 rfl Tryz.ntmps37 rfl ?_; intro B _)
  repeat' (first | apply v_seq | apply v_region | apply v_nil | (apply v_pure; (case hop => first | (apply p_move <;> rfl) | (apply p_assign <;> rfl)); (case hd => rfl)) | fail)
  refine v_call (μ1 := []) (μ2 := []) rfl q (List.Perm.refl _) rfl ?_
  rintro _ G1 _ - ⟨hG1, rfl, z, rfl, hz⟩
  subst hG1
  repeat' (first | apply v_nil | (apply v_pure; (case hop => first | (apply p_ge <;> rfl) | (apply p_assign <;> rfl)); (case hd => rfl)) | fail)
  refine v_ret [] (outsA1 rfl rfl) (by repeat (first | exact List.Sublist.refl _ | fail)) ?_
  refine ⟨?_, rfl, rfl⟩
  congr 1
  rw [Bool.eq_iff_iff, dec_true, hz]
theorem prOddIndex_s {G : GH} {l : List Pr} {sv : Value} (hs : Prs G sv l) : Con Tryz.prog 85 #[sv, .func (.func 62) #[] #[]] G [] (fun r G' μ' => G' = G ∧ μ' = [] ∧ ∃ z : Int, r = .int .i64 z ∧ (0 ≤ z ↔ l.any oddP = true)) := by
  obtain ⟨A, c, rfl, hlc, hcm, hsome, hcp⟩ := rowOpen hs
  simp only [maxLen] at hcm
  (refine v_enter Tryz.func85 rfl Tryz.ntmps85 rfl ?_; intro B _)
  repeat' (first | apply v_seq | apply v_region | apply v_nil | apply v_block | (apply v_pure; (case hop => first | (apply p_move <;> rfl) | (apply p_assign <;> rfl) | (apply p_lenSlice <;> rfl) | fail); (case hd => rfl)) | fail)
  refine v_loop [8, 7, 0, 1] (fun us G' μ' => G' = G ∧ μ' = [] ∧ ∃ k : Nat, k ≤ l.length ∧ us = [Value.int .i64 (k : Nat), .int .i64 (l.length : Nat), .slice A l.length c, .func (.func 62) #[] #[]] ∧ (l.take k).any oddP = false) (fun us => l.length - (headI us).toNat) rfl ⟨rfl, rfl, 0, by omega, rfl, by simp⟩ ?_
  rintro us G' μ' ⟨rfl, rfl, k, hk, rfl, hno⟩
  by_cases hlt : k < l.length
  · have e1 : ((k : Nat) : Int).toNat = k := by omega
    have hA := hsome (by omega)
    have hck := hcp k hlt
    have qp := prOddClos_s G' l[k]
    have hnx : (l.take (k + 1)).any oddP = oddP l[k] := by rw [List.take_succ_eq_append_getElem hlt, List.any_append, hno]; simp
    have hin : oddP l[k] = true → l.any oddP = true := fun h => List.any_eq_true.2 ⟨_, List.getElem_mem hlt, h⟩
    generalize l[k] = x at *
    cases hb : oddP x with
    | true =>
      rw [hb] at qp
      repeat' (first | apply v_seq | apply v_region | apply v_nil | apply v_skip | apply v_block | (apply v_pure; (case hop => first | (apply p_move <;> rfl) | (apply p_lt <;> rfl) | (apply p_assign <;> rfl) | (apply p_indexAddrS; (case hx => rfl); (case hi => rfl); (case h0 => omega); (case h => omega); (case hA => first | assumption | fail)) | fail); (case hd => rfl)) | (apply v_condT; (case hc => rfl)) | (apply v_cond; (case hc => rfl); all_goals (intro h; (try simp only [reduceCtorEq, dec_true, dec_false, decide_eq_true_eq, decide_eq_false_iff_not, Bool.not_eq_true', Bool.not_eq_false', Option.isNone_iff_eq_none, beq_true, beq_false, beq_iff_eq, beq_eq_false_iff_ne, ne_eq, decide_eq_decide, Bool.not_eq_true, Bool.not_eq_false, Decidable.not_not] at h); first | (exfalso; omega) | skip)) | (apply v_read; (case hop => (apply r_loadN; rfl; exact CellsAt.frozen hck; rfl)); (case hd => rfl)) | (apply v_callFJ0 (hs := qp); (case hx => rfl); (case ha => rfl); (case hd => rfl)) | fail)
      refine v_ret [] (outsA1 rfl rfl) (by repeat (first | exact List.Sublist.refl _ | fail)) ?_
      exact ⟨rfl, rfl, _, rfl, fun _ => hin hb, fun _ => by omega⟩
    | false =>
      rw [hb] at qp hnx
      repeat' (first | apply v_seq | apply v_region | apply v_nil | apply v_skip | apply v_block | apply v_blk | (apply v_pure; (case hop => first | (apply p_move <;> rfl) | (apply p_lt <;> rfl) | (apply p_assign <;> rfl) | (apply p_add; (case hx => rfl); (case hy => rfl); (case h => omega)) | (apply p_indexAddrS; (case hx => rfl); (case hi => rfl); (case h0 => omega); (case h => omega); (case hA => first | assumption | fail)) | fail); (case hd => rfl)) | (apply v_condF; (case hc => rfl)) | (apply v_cond; (case hc => rfl); all_goals (intro h; (try simp only [reduceCtorEq, dec_true, dec_false, decide_eq_true_eq, decide_eq_false_iff_not, Bool.not_eq_true', Bool.not_eq_false', Option.isNone_iff_eq_none, beq_true, beq_false, beq_iff_eq, beq_eq_false_iff_ne, ne_eq, decide_eq_decide, Bool.not_eq_true, Bool.not_eq_false, Decidable.not_not] at h); first | (exfalso; omega) | skip)) | (apply v_read; (case hop => (apply r_loadN; rfl; exact CellsAt.frozen hck; rfl)); (case hd => rfl)) | (apply v_callFJ0 (hs := qp); (case hx => rfl); (case ha => rfl); (case hd => rfl)) | fail)
      exact v_again rfl ⟨rfl, rfl, k + 1, by omega, rfl, hnx⟩ (by simp [headI]; omega)
  · rw [List.take_of_length_le (by omega)] at hno
    repeat' (first | apply v_seq | apply v_region | apply v_nil | (apply v_exit; (case hp => rfl)) | (apply v_pure; (case hop => first | (apply p_lt <;> rfl) | (apply p_assign <;> rfl) | fail); (case hd => rfl)) | (apply v_cond; (case hc => rfl); all_goals (intro h; (try simp only [reduceCtorEq, dec_true, dec_false, decide_eq_true_eq, decide_eq_false_iff_not, Bool.not_eq_true', Bool.not_eq_false', Option.isNone_iff_eq_none, beq_true, beq_false, beq_iff_eq, beq_eq_false_iff_ne, ne_eq, decide_eq_decide, Bool.not_eq_true, Bool.not_eq_false, Decidable.not_not] at h); first | (exfalso; omega) | skip)) | fail)
    refine v_ret [] (outsA1 rfl rfl) (by repeat (first | exact List.Sublist.refl _ | fail)) ?_
    exact ⟨rfl, rfl, _, rfl, fun h => by omega, fun h => by rw [hno] at h; cases h⟩
theorem prOddHas_s {G : GH} {l : List Pr} {sv : Value} (hs : Prs G sv l) : Con Tryz.prog 63 #[sv, .func (.func 62) #[] #[]] G [] (Just (.bool (l.any oddP)) G) := by
  have q := prOddIndex_s hs
  (refine v_enter Tryz.func63 rfl Tryz.ntmps63 rfl ?_; intro B _)
  repeat' (first | apply v_seq | apply v_region | apply v_nil | (apply v_pure; (case hop => first | (apply p_move <;> rfl) | (apply p_assign <;> rfl)); (case hd => rfl)) | fail)
  refine v_call (μ1 := []) (μ2 := []) rfl q (List.Perm.refl _) rfl ?_
  rintro _ G1 _ - ⟨hG1, rfl, z, rfl, hz⟩
  subst hG1
  repeat' (first | apply v_nil | (apply v_pure; (case hop => first | (apply p_ge <;> rfl) | (apply p_assign <;> rfl)); (case hd => rfl)) | fail)
  refine v_ret [] (outsA1 rfl rfl) (by repeat (first | exact List.Sublist.refl _ | fail)) ?_
  refine ⟨?_, rfl, rfl⟩
  congr 1
  rw [Bool.eq_iff_iff, dec_true, hz]
end Go.Proofs.YtgflmkhfachlcaaGreatDoor
/-
  kvone, kvtwo (layers 23, 24): whether pairs may be; pairs without revisions.
-/
set_option linter.unusedSimpArgs false
set_option linter.unusedVariables false
namespace Go.Proofs.YtgflmkhfachlcaaGreatDoor
open Go.Vx Go.ChangeShapes Go.WideShapes Go.ChangeAt Go.RowKit
/-- A pair that may be, its revision aside. -/
def PrOk (x : Pr) : Prop := keyB x.key = true ∧ valB x.val = true
def Sized (l : List Pr) : Prop := ∀ x ∈ l, x.key.size ≤ 200 ∧ x.val.size ≤ 200
def AdjP (l : List Pr) : Prop := ∀ i (h : i < l.length) (h0 : 0 < i), ksP (l[i - 1]'(by omega)) < ksP l[i]
def OneP (l : List Pr) : Prop := l.length ≤ 64 ∧ AdjP l ∧ ∀ x ∈ l, PrOk x ∧ x.rev = 0
def TwoP (l : List Pr) : Prop := l.length ≤ 64 ∧ AdjP l ∧ ∀ x ∈ l, PrOk x ∧ 1 ≤ x.rev ∧ x.rev ≤ 4294967296
noncomputable instance (l : List Pr) : Decidable (OneP l) := Classical.propDecidable _
noncomputable instance (l : List Pr) : Decidable (TwoP l) := Classical.propDecidable _
theorem adj_rise {l : List Pr} (h : AdjP l) : RiseG ksP l := by
  intro i j hj hij
  induction j with
  | zero => omega
  | succ j ih =>
    have h1 := h (j + 1) hj (by omega)
    simp only [Nat.add_sub_cancel] at h1
    by_cases e : i = j
    · subst e; exact h1
    · have := ih (by omega) (by omega)
      omega
theorem rise_adj {l : List Pr} (h : RiseG ksP l) : AdjP l := fun i hi h0 => h (i - 1) i hi (by omega)
set_option maxHeartbeats 1000000 in
theorem oneCheck_s {G : GH} (hT : TabsG G) {l : List Pr} {sv : Value} (hs : Prs G sv l) (hz : Sized l) : Con Tryz.prog 39 #[sv] G [] (Just (.int .i64 (if OneP l then 0 else 3)) G) := by
  obtain ⟨A, c, rfl, hlc, hcm, hsome, hcp⟩ := rowOpen hs
  simp only [maxLen] at hcm
  apply Con.just
  by_cases h64 : 64 < l.length
  · rw [if_neg (fun h => by have := h.1; omega)]
    (refine v_enter Tryz.func39 rfl Tryz.ntmps39 rfl ?_; intro B _)
    repeat' (first | apply v_seq | apply v_region | apply v_nil | (apply v_pure; (case hop => first | (apply p_move <;> rfl) | (apply p_gt <;> rfl) | (apply p_assign <;> rfl) | (apply p_lenSlice <;> rfl) | fail); (case hd => rfl)) | (apply v_cond; (case hc => rfl); all_goals (intro h; (try simp only [reduceCtorEq, dec_true, dec_false, decide_eq_true_eq, decide_eq_false_iff_not, Bool.not_eq_true', Bool.not_eq_false', Option.isNone_iff_eq_none, beq_true, beq_false, beq_iff_eq, beq_eq_false_iff_ne, ne_eq, decide_eq_decide, Bool.not_eq_true, Bool.not_eq_false, Decidable.not_not] at h); first | (exfalso; omega) | skip)) | fail)
    refine v_ret [] (outsA1 rfl rfl) (by repeat (first | exact List.Sublist.refl _ | fail)) ?_
    exact ⟨rfl, rfl⟩
  (refine v_enter Tryz.func39 rfl Tryz.ntmps39 rfl ?_; intro B _)
  repeat' (first | apply v_seq | apply v_region | apply v_nil | apply v_skip | apply v_block | (apply v_pure; (case hop => first | (apply p_move <;> rfl) | (apply p_gt <;> rfl) | (apply p_assign <;> rfl) | (apply p_lenSlice <;> rfl) | fail); (case hd => rfl)) | (apply v_cond; (case hc => rfl); all_goals (intro h; (try simp only [reduceCtorEq, dec_true, dec_false, decide_eq_true_eq, decide_eq_false_iff_not, Bool.not_eq_true', Bool.not_eq_false', Option.isNone_iff_eq_none, beq_true, beq_false, beq_iff_eq, beq_eq_false_iff_ne, ne_eq, decide_eq_decide, Bool.not_eq_true, Bool.not_eq_false, Decidable.not_not] at h); first | (exfalso; omega) | skip)) | fail)
  refine v_loop [10, 9, 8, 0] (fun us G' μ' => G' = G ∧ μ' = [] ∧ ∃ k : Nat, k ≤ l.length ∧ us = [Value.int .i64 (k : Nat), .int .i64 (l.length : Nat), .slice A l.length c, .slice A l.length c] ∧ ∀ i (h : i < l.length), i < k → (∀ h0 : 0 < i, ksP (l[i - 1]'(by omega)) < ksP l[i]) ∧ PrOk l[i] ∧ l[i].rev = 0) (fun us => l.length - (headI us).toNat) rfl ⟨rfl, rfl, 0, by omega, rfl, by omega⟩ ?_
  rintro us G' _ ⟨rfl, rfl, k, hk, rfl, hno⟩
  by_cases hlt : k < l.length
  · have e1 : ((k : Nat) : Int).toNat = k := by omega
    have hA := hsome (by omega)
    have hck := hcp k hlt
    obtain ⟨hz1, hz2⟩ := hz _ (List.getElem_mem hlt)
    obtain ⟨pk, hpk, hpz, hpe⟩ : ∃ pk : ByteArray, (0 < k → GH.cell? G' (((adr A).add ((((k : Nat) : Int) - 1).toNat * 3)).add 0) = some (.string pk)) ∧ pk.size ≤ 200 ∧ ∀ h0 : 0 < k, pk = (l[k - 1]'(by omega)).key := by
      by_cases h0 : 0 < k
      · have e2 : (((k : Nat) : Int) - 1).toNat = k - 1 := by omega
        exact ⟨_, fun _ => by rw [e2]; exact (hcp (k - 1) (by omega)).cell (j := 0) rfl, (hz _ (List.getElem_mem (by omega))).1, fun _ => rfl⟩
      · exact ⟨ByteArray.empty, fun h => absurd h h0, by decide, fun h => absurd h h0⟩
    have hin : ∀ P : Prop, OneP l → (((∀ h0 : 0 < k, kn pk < kn (l[k]).key) ∧ keyB (l[k]).key = true ∧ valB (l[k]).val = true ∧ (l[k]).rev = 0) → P) → P := fun P h hp => hp ⟨fun h0 => by rw [hpe h0]; exact h.2.1 k hlt h0, (h.2.2 _ (List.getElem_mem hlt)).1.1, (h.2.2 _ (List.getElem_mem hlt)).1.2, (h.2.2 _ (List.getElem_mem hlt)).2⟩
    have hnx : (∀ h0 : 0 < k, kn pk < kn (l[k]).key) → keyB (l[k]).key = true → valB (l[k]).val = true → (l[k]).rev = 0 → ∀ i (h : i < l.length), i < k + 1 → (∀ h0 : 0 < i, ksP (l[i - 1]'(by omega)) < ksP l[i]) ∧ PrOk l[i] ∧ l[i].rev = 0 := fun a1 a2 a3 a4 i hi hik => by
      by_cases e : i = k
      · subst e
        exact ⟨fun h0 => by have := a1 h0; rw [hpe h0] at this; exact this, ⟨a2, a3⟩, a4⟩
      · exact hno i hi (by omega)
    have qk := key_s (s := (l[k]).key) hT (by omega)
    have qv := val_s (s := (l[k]).val) hT (by omega)
    clear hpe
    generalize l[k] = x at *
    obtain ⟨key, val, rev⟩ := x
    simp only at *
    generalize hkb : keyB key = kb at *
    generalize hvb : valB val = vb at *
    repeat' (first | apply v_seq | apply v_region | apply v_nil | apply v_skip | apply v_block | (apply v_pure; (case hop => first | (apply p_move <;> rfl) | (apply p_lt <;> rfl) | (apply p_assign <;> rfl) | (apply p_indexAddrS; (case hx => rfl); (case hi => rfl); (case h0 => omega); (case h => omega); (case hA => first | assumption | fail)) | fail); (case hd => rfl)) | (apply v_cond; (case hc => rfl); all_goals (intro h; (try simp only [reduceCtorEq, dec_true, dec_false, decide_eq_true_eq, decide_eq_false_iff_not, Bool.not_eq_true', Bool.not_eq_false', Option.isNone_iff_eq_none, beq_true, beq_false, beq_iff_eq, beq_eq_false_iff_ne, ne_eq, decide_eq_decide, Bool.not_eq_true, Bool.not_eq_false, Decidable.not_not] at h); first | (exfalso; omega) | skip)) | (apply v_read; (case hop => (apply r_loadN; rfl; exact CellsAt.frozen hck; rfl)); (case hd => rfl)) | (apply v_alloc; (case hz => rfl); (case hd => rfl); intro b) | (apply v_store; (case hp => rfl); (case hx => rfl); (case hc => rfl); (case hsz => rfl); (case h1 => rfl); (case hb => (repeat (first | exact List.Mem.head _ | fail))); (case hfit => first | exact Nat.le_of_ble_eq_true rfl | fail); (case hov => (first | ((repeat (first | with_reducible exact ov_nil | apply ov_cons | fail)); done) | fail)); (case hu => repeat (first | exact Upd.here _ _ | fail))) | fail)
    refine d_start [(b, .cells [.string key, .string val, .int .i64 rev].toArray 65 (0, 0))] (by kernel_rfl) (by kernel_rfl) (by kernel_rfl) (by intro e he; first | exact he | fail) ?_
    all_goals (first | (apply d_take 0; (case hi => rfl); (case hop => first | (apply PureOp.read; apply p_move <;> rfl)); (case hf => kernel_rfl); (case hr => kernel_rfl); (case hd => rfl)) | fail)
    all_goals (first | (apply d_take 1; (case hi => rfl); (case hop => first | (apply PureOp.read; apply p_gt <;> rfl)); (case hf => kernel_rfl); (case hr => kernel_rfl); (case hd => rfl)) | fail)
    all_goals (first | (apply d_take 2; (case hi => rfl); (case hop => first | (apply PureOp.read; apply p_move <;> rfl)); (case hf => kernel_rfl); (case hr => kernel_rfl); (case hd => rfl)) | fail)
    all_goals (try (apply d_guardB 3; (case hi => rfl); (case hgd => rfl); (case h1 => rfl); (case h2 => first | rfl); all_goals (intro h; (try simp only [reduceCtorEq, dec_true, dec_false, decide_eq_true_eq, decide_eq_false_iff_not, Bool.not_eq_true', Bool.not_eq_false', Option.isNone_iff_eq_none, beq_true, beq_false, beq_iff_eq, beq_eq_false_iff_ne, ne_eq, decide_eq_decide, Bool.not_eq_true, Bool.not_eq_false, Decidable.not_not] at h); first | skip)))
    all_goals (first | (apply d_pass 3; (case hi => rfl); (case hg => rfl); (case hn => rfl); (case hf => kernel_rfl); (case hr => kernel_rfl); (case hd => rfl)) | (apply d_takeG 3; (case hi => rfl); (case hg => rfl); (case hop => first | (apply PureOp.read; apply p_fieldAddrB <;> rfl) | fail); (case hf => kernel_rfl); (case hr => kernel_rfl); (case hd => rfl)) | fail)
    all_goals (try (apply d_guardB 4; (case hi => rfl); (case hgd => rfl); (case h1 => rfl); (case h2 => first | rfl); all_goals (intro h; (try simp only [reduceCtorEq, dec_true, dec_false, decide_eq_true_eq, decide_eq_false_iff_not, Bool.not_eq_true', Bool.not_eq_false', Option.isNone_iff_eq_none, beq_true, beq_false, beq_iff_eq, beq_eq_false_iff_ne, ne_eq, decide_eq_decide, Bool.not_eq_true, Bool.not_eq_false, Decidable.not_not] at h); first | done | skip)))
    all_goals (first | (apply d_pass 4; (case hi => rfl); (case hg => rfl); (case hn => rfl); (case hf => kernel_rfl); (case hr => kernel_rfl); (case hd => rfl)) | (apply d_takeG 4; (case hi => rfl); (case hg => rfl); (case hop => first | (apply r_load1; rfl; (apply Cell.own; (case h => (repeat (first | exact List.Mem.head _ | fail))); rfl)) | fail); (case hf => kernel_rfl); (case hr => kernel_rfl); (case hd => rfl)) | fail)
    all_goals (try (apply d_guardB 5; (case hi => rfl); (case hgd => rfl); (case h1 => rfl); (case h2 => first | rfl); all_goals (intro h; (try simp only [reduceCtorEq, dec_true, dec_false, decide_eq_true_eq, decide_eq_false_iff_not, Bool.not_eq_true', Bool.not_eq_false', Option.isNone_iff_eq_none, beq_true, beq_false, beq_iff_eq, beq_eq_false_iff_ne, ne_eq, decide_eq_decide, Bool.not_eq_true, Bool.not_eq_false, Decidable.not_not] at h); first | done | skip)))
    all_goals (first | (apply d_pass 5; (case hi => rfl); (case hg => rfl); (case hn => rfl); (case hf => kernel_rfl); (case hr => kernel_rfl); (case hd => rfl)) | (apply d_takeG 5; (case hi => rfl); (case hg => rfl); (case hop => first | (apply PureOp.read; apply p_move <;> rfl)); (case hf => kernel_rfl); (case hr => kernel_rfl); (case hd => rfl)) | fail)
    all_goals (try (apply d_guardB 6; (case hi => rfl); (case hgd => rfl); (case h1 => rfl); (case h2 => first | rfl); all_goals (intro h; (try simp only [reduceCtorEq, dec_true, dec_false, decide_eq_true_eq, decide_eq_false_iff_not, Bool.not_eq_true', Bool.not_eq_false', Option.isNone_iff_eq_none, beq_true, beq_false, beq_iff_eq, beq_eq_false_iff_ne, ne_eq, decide_eq_decide, Bool.not_eq_true, Bool.not_eq_false, Decidable.not_not] at h); first | done | skip)))
    all_goals (first | (apply d_pass 6; (case hi => rfl); (case hg => rfl); (case hn => rfl); (case hf => kernel_rfl); (case hr => kernel_rfl); (case hd => rfl)) | (apply d_takeG 6; (case hi => rfl); (case hg => rfl); (case hop => first | (apply PureOp.read; apply p_move <;> rfl)); (case hf => kernel_rfl); (case hr => kernel_rfl); (case hd => rfl)) | fail)
    all_goals (try (apply d_guardB 7; (case hi => rfl); (case hgd => rfl); (case h1 => rfl); (case h2 => first | rfl); all_goals (intro h; (try simp only [reduceCtorEq, dec_true, dec_false, decide_eq_true_eq, decide_eq_false_iff_not, Bool.not_eq_true', Bool.not_eq_false', Option.isNone_iff_eq_none, beq_true, beq_false, beq_iff_eq, beq_eq_false_iff_ne, ne_eq, decide_eq_decide, Bool.not_eq_true, Bool.not_eq_false, Decidable.not_not] at h); first | done | skip)))
    all_goals (first | (apply d_pass 7; (case hi => rfl); (case hg => rfl); (case hn => rfl); (case hf => kernel_rfl); (case hr => kernel_rfl); (case hd => rfl)) | (apply d_takeG 7; (case hi => rfl); (case hg => rfl); (case hop => first | (apply PureOp.read; apply p_sub; (case hx => rfl); (case hy => rfl); (case h => omega))); (case hf => kernel_rfl); (case hr => kernel_rfl); (case hd => rfl)) | fail)
    all_goals (try (apply d_guardB 8; (case hi => rfl); (case hgd => rfl); (case h1 => rfl); (case h2 => first | rfl); all_goals (intro h; (try simp only [reduceCtorEq, dec_true, dec_false, decide_eq_true_eq, decide_eq_false_iff_not, Bool.not_eq_true', Bool.not_eq_false', Option.isNone_iff_eq_none, beq_true, beq_false, beq_iff_eq, beq_eq_false_iff_ne, ne_eq, decide_eq_decide, Bool.not_eq_true, Bool.not_eq_false, Decidable.not_not] at h); first | done | skip)))
    all_goals (first | (apply d_pass 8; (case hi => rfl); (case hg => rfl); (case hn => rfl); (case hf => kernel_rfl); (case hr => kernel_rfl); (case hd => rfl)) | (apply d_takeG 8; (case hi => rfl); (case hg => rfl); (case hop => first | (apply PureOp.read; apply p_indexAddrS; (case hx => rfl); (case hi => rfl); (case h0 => omega); (case h => omega); (case hA => first | assumption | fail))); (case hf => kernel_rfl); (case hr => kernel_rfl); (case hd => rfl)) | fail)
    all_goals (try (apply d_guardB 9; (case hi => rfl); (case hgd => rfl); (case h1 => rfl); (case h2 => first | rfl); all_goals (intro h; (try simp only [reduceCtorEq, dec_true, dec_false, decide_eq_true_eq, decide_eq_false_iff_not, Bool.not_eq_true', Bool.not_eq_false', Option.isNone_iff_eq_none, beq_true, beq_false, beq_iff_eq, beq_eq_false_iff_ne, ne_eq, decide_eq_decide, Bool.not_eq_true, Bool.not_eq_false, Decidable.not_not] at h); first | done | skip)))
    all_goals (first | (apply d_pass 9; (case hi => rfl); (case hg => rfl); (case hn => rfl); (case hf => kernel_rfl); (case hr => kernel_rfl); (case hd => rfl)) | (apply d_takeG 9; (case hi => rfl); (case hg => rfl); (case hop => first | (apply PureOp.read; apply p_fieldAddr <;> rfl)); (case hf => kernel_rfl); (case hr => kernel_rfl); (case hd => rfl)) | fail)
    all_goals (try (apply d_guardB 10; (case hi => rfl); (case hgd => rfl); (case h1 => rfl); (case h2 => first | rfl); all_goals (intro h; (try simp only [reduceCtorEq, dec_true, dec_false, decide_eq_true_eq, decide_eq_false_iff_not, Bool.not_eq_true', Bool.not_eq_false', Option.isNone_iff_eq_none, beq_true, beq_false, beq_iff_eq, beq_eq_false_iff_ne, ne_eq, decide_eq_decide, Bool.not_eq_true, Bool.not_eq_false, Decidable.not_not] at h); first | done | skip)))
    all_goals (first | (apply d_pass 10; (case hi => rfl); (case hg => rfl); (case hn => rfl); (case hf => kernel_rfl); (case hr => kernel_rfl); (case hd => rfl)) | (apply d_takeG 10; (case hi => rfl); (case hg => rfl); (case hop => first | ((apply r_load1; rfl; exact Cell.frozen (hpk (by omega)))) | fail); (case hf => kernel_rfl); (case hr => kernel_rfl); (case hd => rfl)) | fail)
    all_goals (try (apply d_guardB 11; (case hi => rfl); (case hgd => rfl); (case h1 => rfl); (case h2 => first | rfl); all_goals (intro h; (try simp only [reduceCtorEq, dec_true, dec_false, decide_eq_true_eq, decide_eq_false_iff_not, Bool.not_eq_true', Bool.not_eq_false', Option.isNone_iff_eq_none, beq_true, beq_false, beq_iff_eq, beq_eq_false_iff_ne, ne_eq, decide_eq_decide, Bool.not_eq_true, Bool.not_eq_false, Decidable.not_not] at h); first | done | skip)))
    all_goals (first | (apply d_pass 11; (case hi => rfl); (case hg => rfl); (case hn => rfl); (case hf => kernel_rfl); (case hr => kernel_rfl); (case hd => rfl)) | (apply d_takeG 11; (case hi => rfl); (case hg => rfl); (case hop => first | ((apply PureOp.read; apply p_leK; (case hx => rfl); (case hy => rfl); (case ha => assumption); (case hb => assumption))) | fail); (case hf => kernel_rfl); (case hr => kernel_rfl); (case hd => rfl)) | fail)
    all_goals (first | (apply d_take 12; (case hi => rfl); (case hop => first | (apply PureOp.read; apply p_pickT <;> rfl) | (apply PureOp.read; apply p_pickF <;> rfl) | fail); (case hf => kernel_rfl); (case hr => kernel_rfl); (case hd => rfl)) | fail)
    all_goals (first | (apply d_take 13; (case hi => rfl); (case hop => first | (apply PureOp.read; apply p_move <;> rfl)); (case hf => kernel_rfl); (case hr => kernel_rfl); (case hd => rfl)) | fail)
    all_goals (try (apply d_guardB 14; (case hi => rfl); (case hgd => rfl); (case h1 => rfl); (case h2 => first | rfl); all_goals (intro h; (try simp only [reduceCtorEq, dec_true, dec_false, decide_eq_true_eq, decide_eq_false_iff_not, Bool.not_eq_true', Bool.not_eq_false', Option.isNone_iff_eq_none, beq_true, beq_false, beq_iff_eq, beq_eq_false_iff_ne, ne_eq, decide_eq_decide, Bool.not_eq_true, Bool.not_eq_false, Decidable.not_not] at h); first | done | skip)))
    all_goals (first | (apply d_pass 14; (case hi => rfl); (case hg => rfl); (case hn => rfl); (case hf => kernel_rfl); (case hr => kernel_rfl); (case hd => rfl)) | (apply d_takeG 14; (case hi => rfl); (case hg => rfl); (case hop => first | (apply PureOp.read; apply p_fieldAddrB <;> rfl) | fail); (case hf => kernel_rfl); (case hr => kernel_rfl); (case hd => rfl)) | fail)
    all_goals (try (apply d_guardB 15; (case hi => rfl); (case hgd => rfl); (case h1 => rfl); (case h2 => first | rfl); all_goals (intro h; (try simp only [reduceCtorEq, dec_true, dec_false, decide_eq_true_eq, decide_eq_false_iff_not, Bool.not_eq_true', Bool.not_eq_false', Option.isNone_iff_eq_none, beq_true, beq_false, beq_iff_eq, beq_eq_false_iff_ne, ne_eq, decide_eq_decide, Bool.not_eq_true, Bool.not_eq_false, Decidable.not_not] at h); first | done | skip)))
    all_goals (first | (apply d_pass 15; (case hi => rfl); (case hg => rfl); (case hn => rfl); (case hf => kernel_rfl); (case hr => kernel_rfl); (case hd => rfl)) | (apply d_takeG 15; (case hi => rfl); (case hg => rfl); (case hop => first | (apply r_load1; rfl; (apply Cell.own; (case h => (repeat (first | exact List.Mem.head _ | fail))); rfl)) | fail); (case hf => kernel_rfl); (case hr => kernel_rfl); (case hd => rfl)) | fail)
    all_goals (try (apply d_guardB 16; (case hi => rfl); (case hgd => rfl); (case h1 => rfl); (case h2 => first | rfl); all_goals (intro h; (try simp only [reduceCtorEq, dec_true, dec_false, decide_eq_true_eq, decide_eq_false_iff_not, Bool.not_eq_true', Bool.not_eq_false', Option.isNone_iff_eq_none, beq_true, beq_false, beq_iff_eq, beq_eq_false_iff_ne, ne_eq, decide_eq_decide, Bool.not_eq_true, Bool.not_eq_false, Decidable.not_not] at h); first | done | skip)))
    all_goals (first | (apply d_pass 16; (case hi => rfl); (case hg => rfl); (case hn => rfl); (case hf => kernel_rfl); (case hr => kernel_rfl); (case hd => rfl)) | (apply d_callJG 16 (hs := qk); (case hi => rfl); (case hg => rfl); (case hr => kernel_rfl); (case ha => rfl); (case hd => rfl)) | fail)
    all_goals (try (apply d_guardB 17; (case hi => rfl); (case hgd => rfl); (case h1 => rfl); (case h2 => first | rfl); all_goals (intro h; (try simp only [reduceCtorEq, dec_true, dec_false, decide_eq_true_eq, decide_eq_false_iff_not, Bool.not_eq_true', Bool.not_eq_false', Option.isNone_iff_eq_none, beq_true, beq_false, beq_iff_eq, beq_eq_false_iff_ne, ne_eq, decide_eq_decide, Bool.not_eq_true, Bool.not_eq_false, Decidable.not_not] at h); first | done | skip)))
    all_goals (first | (apply d_pass 17; (case hi => rfl); (case hg => rfl); (case hn => rfl); (case hf => kernel_rfl); (case hr => kernel_rfl); (case hd => rfl)) | (apply d_takeG 17; (case hi => rfl); (case hg => rfl); (case hop => first | (apply PureOp.read; apply p_not <;> rfl)); (case hf => kernel_rfl); (case hr => kernel_rfl); (case hd => rfl)) | fail)
    all_goals (first | (apply d_take 18; (case hi => rfl); (case hop => first | (apply PureOp.read; apply p_pickT <;> rfl) | (apply PureOp.read; apply p_pickF <;> rfl) | fail); (case hf => kernel_rfl); (case hr => kernel_rfl); (case hd => rfl)) | fail)
    all_goals (first | (apply d_take 19; (case hi => rfl); (case hop => first | (apply PureOp.read; apply p_move <;> rfl)); (case hf => kernel_rfl); (case hr => kernel_rfl); (case hd => rfl)) | fail)
    all_goals (try (apply d_guardB 20; (case hi => rfl); (case hgd => rfl); (case h1 => rfl); (case h2 => first | rfl); all_goals (intro h; (try simp only [reduceCtorEq, dec_true, dec_false, decide_eq_true_eq, decide_eq_false_iff_not, Bool.not_eq_true', Bool.not_eq_false', Option.isNone_iff_eq_none, beq_true, beq_false, beq_iff_eq, beq_eq_false_iff_ne, ne_eq, decide_eq_decide, Bool.not_eq_true, Bool.not_eq_false, Decidable.not_not] at h); first | done | skip)))
    all_goals (first | (apply d_pass 20; (case hi => rfl); (case hg => rfl); (case hn => rfl); (case hf => kernel_rfl); (case hr => kernel_rfl); (case hd => rfl)) | (apply d_takeG 20; (case hi => rfl); (case hg => rfl); (case hop => first | (apply PureOp.read; apply p_fieldAddrB <;> rfl) | fail); (case hf => kernel_rfl); (case hr => kernel_rfl); (case hd => rfl)) | fail)
    all_goals (try (apply d_guardB 21; (case hi => rfl); (case hgd => rfl); (case h1 => rfl); (case h2 => first | rfl); all_goals (intro h; (try simp only [reduceCtorEq, dec_true, dec_false, decide_eq_true_eq, decide_eq_false_iff_not, Bool.not_eq_true', Bool.not_eq_false', Option.isNone_iff_eq_none, beq_true, beq_false, beq_iff_eq, beq_eq_false_iff_ne, ne_eq, decide_eq_decide, Bool.not_eq_true, Bool.not_eq_false, Decidable.not_not] at h); first | done | skip)))
    all_goals (first | (apply d_pass 21; (case hi => rfl); (case hg => rfl); (case hn => rfl); (case hf => kernel_rfl); (case hr => kernel_rfl); (case hd => rfl)) | (apply d_takeG 21; (case hi => rfl); (case hg => rfl); (case hop => first | (apply r_load1; rfl; (apply Cell.own; (case h => (repeat (first | exact List.Mem.head _ | fail))); rfl)) | fail); (case hf => kernel_rfl); (case hr => kernel_rfl); (case hd => rfl)) | fail)
    all_goals (try (apply d_guardB 22; (case hi => rfl); (case hgd => rfl); (case h1 => rfl); (case h2 => first | rfl); all_goals (intro h; (try simp only [reduceCtorEq, dec_true, dec_false, decide_eq_true_eq, decide_eq_false_iff_not, Bool.not_eq_true', Bool.not_eq_false', Option.isNone_iff_eq_none, beq_true, beq_false, beq_iff_eq, beq_eq_false_iff_ne, ne_eq, decide_eq_decide, Bool.not_eq_true, Bool.not_eq_false, Decidable.not_not] at h); first | done | skip)))
    all_goals (first | (apply d_pass 22; (case hi => rfl); (case hg => rfl); (case hn => rfl); (case hf => kernel_rfl); (case hr => kernel_rfl); (case hd => rfl)) | (apply d_callJG 22 (hs := qv); (case hi => rfl); (case hg => rfl); (case hr => kernel_rfl); (case ha => rfl); (case hd => rfl)) | fail)
    all_goals (try (apply d_guardB 23; (case hi => rfl); (case hgd => rfl); (case h1 => rfl); (case h2 => first | rfl); all_goals (intro h; (try simp only [reduceCtorEq, dec_true, dec_false, decide_eq_true_eq, decide_eq_false_iff_not, Bool.not_eq_true', Bool.not_eq_false', Option.isNone_iff_eq_none, beq_true, beq_false, beq_iff_eq, beq_eq_false_iff_ne, ne_eq, decide_eq_decide, Bool.not_eq_true, Bool.not_eq_false, Decidable.not_not] at h); first | done | skip)))
    all_goals (first | (apply d_pass 23; (case hi => rfl); (case hg => rfl); (case hn => rfl); (case hf => kernel_rfl); (case hr => kernel_rfl); (case hd => rfl)) | (apply d_takeG 23; (case hi => rfl); (case hg => rfl); (case hop => first | (apply PureOp.read; apply p_not <;> rfl)); (case hf => kernel_rfl); (case hr => kernel_rfl); (case hd => rfl)) | fail)
    all_goals (first | (apply d_take 24; (case hi => rfl); (case hop => first | (apply PureOp.read; apply p_pickT <;> rfl) | (apply PureOp.read; apply p_pickF <;> rfl) | fail); (case hf => kernel_rfl); (case hr => kernel_rfl); (case hd => rfl)) | fail)
    all_goals (first | (apply d_take 25; (case hi => rfl); (case hop => first | (apply PureOp.read; apply p_move <;> rfl)); (case hf => kernel_rfl); (case hr => kernel_rfl); (case hd => rfl)) | fail)
    all_goals (try (apply d_guardB 26; (case hi => rfl); (case hgd => rfl); (case h1 => rfl); (case h2 => first | rfl); all_goals (intro h; (try simp only [reduceCtorEq, dec_true, dec_false, decide_eq_true_eq, decide_eq_false_iff_not, Bool.not_eq_true', Bool.not_eq_false', Option.isNone_iff_eq_none, beq_true, beq_false, beq_iff_eq, beq_eq_false_iff_ne, ne_eq, decide_eq_decide, Bool.not_eq_true, Bool.not_eq_false, Decidable.not_not] at h); first | done | skip)))
    all_goals (first | (apply d_pass 26; (case hi => rfl); (case hg => rfl); (case hn => rfl); (case hf => kernel_rfl); (case hr => kernel_rfl); (case hd => rfl)) | (apply d_takeG 26; (case hi => rfl); (case hg => rfl); (case hop => first | (apply PureOp.read; apply p_fieldAddrB <;> rfl) | fail); (case hf => kernel_rfl); (case hr => kernel_rfl); (case hd => rfl)) | fail)
    all_goals (try (apply d_guardB 27; (case hi => rfl); (case hgd => rfl); (case h1 => rfl); (case h2 => first | rfl); all_goals (intro h; (try simp only [reduceCtorEq, dec_true, dec_false, decide_eq_true_eq, decide_eq_false_iff_not, Bool.not_eq_true', Bool.not_eq_false', Option.isNone_iff_eq_none, beq_true, beq_false, beq_iff_eq, beq_eq_false_iff_ne, ne_eq, decide_eq_decide, Bool.not_eq_true, Bool.not_eq_false, Decidable.not_not] at h); first | done | skip)))
    all_goals (first | (apply d_pass 27; (case hi => rfl); (case hg => rfl); (case hn => rfl); (case hf => kernel_rfl); (case hr => kernel_rfl); (case hd => rfl)) | (apply d_takeG 27; (case hi => rfl); (case hg => rfl); (case hop => first | (apply r_load1; rfl; (apply Cell.own; (case h => (repeat (first | exact List.Mem.head _ | fail))); rfl)) | fail); (case hf => kernel_rfl); (case hr => kernel_rfl); (case hd => rfl)) | fail)
    all_goals (try (apply d_guardB 28; (case hi => rfl); (case hgd => rfl); (case h1 => rfl); (case h2 => first | rfl); all_goals (intro h; (try simp only [reduceCtorEq, dec_true, dec_false, decide_eq_true_eq, decide_eq_false_iff_not, Bool.not_eq_true', Bool.not_eq_false', Option.isNone_iff_eq_none, beq_true, beq_false, beq_iff_eq, beq_eq_false_iff_ne, ne_eq, decide_eq_decide, Bool.not_eq_true, Bool.not_eq_false, Decidable.not_not] at h); first | done | skip)))
    all_goals (first | (apply d_pass 28; (case hi => rfl); (case hg => rfl); (case hn => rfl); (case hf => kernel_rfl); (case hr => kernel_rfl); (case hd => rfl)) | (apply d_takeG 28; (case hi => rfl); (case hg => rfl); (case hop => first | (apply PureOp.read; apply p_ne <;> rfl) | fail); (case hf => kernel_rfl); (case hr => kernel_rfl); (case hd => rfl)) | fail)
    all_goals (first | (apply d_take 29; (case hi => rfl); (case hop => first | (apply PureOp.read; apply p_pickT <;> rfl) | (apply PureOp.read; apply p_pickF <;> rfl) | fail); (case hf => kernel_rfl); (case hr => kernel_rfl); (case hd => rfl)) | fail)
    all_goals (apply d_done; (case hr => kernel_rfl))
    repeat' (first | apply v_seq | apply v_region | apply v_nil | apply v_skip | apply v_blk | (apply v_pure; (case hop => first | (apply p_move <;> rfl) | (apply p_assign <;> rfl) | (apply p_add; (case hx => rfl); (case hy => rfl); (case h => omega)) | fail); (case hd => rfl)) | (apply v_condT; (case hc => rfl)) | (apply v_cond; (case hc => rfl); all_goals (intro h; (try simp only [reduceCtorEq, dec_true, dec_false, decide_eq_true_eq, decide_eq_false_iff_not, Bool.not_eq_true', Bool.not_eq_false', Option.isNone_iff_eq_none, beq_true, beq_false, beq_iff_eq, beq_eq_false_iff_ne, ne_eq, decide_eq_decide, Bool.not_eq_true, Bool.not_eq_false, Decidable.not_not] at h); first | skip)) | fail)
    all_goals first
      | (refine v_drop (List.nil_sublist _) ?_
         refine v_again rfl ⟨rfl, rfl, k + 1, by omega, rfl, hnx (fun h0 => by omega) (by assumption) (by assumption) (by assumption)⟩ (by simp [headI]; omega))
      | (refine v_ret [] (outsA1 rfl rfl) (by repeat (first | exact List.nil_sublist _ | fail)) ?_
         refine ⟨?_, rfl⟩
         rw [if_neg]
         intro ho
         refine hin False ho ?_
         rintro ⟨a1, a2, a3, a4⟩
         first
           | (cases a2.symm.trans ‹kb = false›)
           | (cases a3.symm.trans ‹vb = false›)
           | (exact absurd a4 (by assumption))
           | (have a5 := a1 (by omega); omega))
  · have hone : OneP l := ⟨by omega, fun i hi h0 => (hno i hi (by omega)).1 h0, fun x hx => by
      obtain ⟨i, hi, rfl⟩ := List.getElem_of_mem hx
      exact (hno i hi (by omega)).2⟩
    rw [if_pos hone]
    repeat' (first | apply v_seq | apply v_region | apply v_nil | (apply v_exit; (case hp => rfl)) | (apply v_pure; (case hop => first | (apply p_lt <;> rfl) | (apply p_assign <;> rfl) | fail); (case hd => rfl)) | (apply v_cond; (case hc => rfl); all_goals (intro h; (try simp only [reduceCtorEq, dec_true, dec_false, decide_eq_true_eq, decide_eq_false_iff_not, Bool.not_eq_true', Bool.not_eq_false', Option.isNone_iff_eq_none, beq_true, beq_false, beq_iff_eq, beq_eq_false_iff_ne, ne_eq, decide_eq_decide, Bool.not_eq_true, Bool.not_eq_false, Decidable.not_not] at h); first | (exfalso; omega) | skip)) | fail)
    refine v_ret [] (outsA1 rfl rfl) (by repeat (first | exact List.Sublist.refl _ | fail)) ?_
    exact ⟨rfl, rfl⟩
/-! ### Without revisions -/
theorem p_idxOwn2 {P : Program} {σ : Env} {t ty : TypeId} {bytes : Nat} {zero : Value} {e : TypeId} {agg : Bool} {sz : Nat} {x i : Operand} {b l c k : Nat} {kd : IntKind} [Ty P t (.slice e)] [Lay P e agg sz bytes zero] (hx : Env.ev σ x = some (.slice (some ⟨b, 0, none⟩) l c)) (hi : Env.ev σ i = some (.int kd (k : Nat))) (h : k < l) : PureOp P (.indexAddr t x i) ty σ (.pointer (some ⟨b, k * sz, none⟩)) := by
  have := p_indexAddr (P := P) (t := t) (ty := ty) hx hi (by omega) (by omega)
  simpa [add_mk] using this
def plainOf (x : Pr) : Pr := { x with rev := 0 }
def plainK (l : List Pr) (k : Nat) : List Pr := (l.take k).map plainOf ++ l.drop k
theorem plainK_next {l : List Pr} {k : Nat} (h : k < l.length) : plainK l (k + 1) = (l.take k).map plainOf ++ plainOf l[k] :: l.drop (k + 1) := by
  unfold plainK
  rw [List.take_succ_eq_append_getElem h, List.map_append, List.append_assoc]
  rfl
theorem plainK_at {l : List Pr} {k : Nat} (h : k < l.length) : plainK l k = (l.take k).map plainOf ++ l[k] :: l.drop (k + 1) := by
  unfold plainK
  rw [List.drop_eq_getElem_cons h]
theorem rev_over (x : Pr) (p q : List Value) (n : Nat) (hp : p.length = n) : over (p ++ (x.cells ++ q)) (n + 2) [.int .i64 0] = p ++ ((plainOf x).cells ++ q) := by
  subst hp
  unfold over
  rw [List.take_append, List.take_of_length_le (by omega), List.drop_append, List.drop_of_length_le (by omega)]
  rw [show p.length + 2 - p.length = 2 by omega, show p.length + 2 + [Value.int IntKind.i64 0].length - p.length = 3 by simp only [List.length_singleton]; omega]
  simp [Pr.cells, plainOf]
theorem plainPr_s {G : GH} {l : List Pr} {sv : Value} (hs : Prs G sv l) (hn : l.length ≤ 200) : Con Tryz.prog 64 #[sv] G [] (fun r G' μ' => G' = G ∧ GrP r (l.map plainOf) μ') := by
  have q := prClone_s hs hn
  (refine v_enter Tryz.func64 rfl Tryz.ntmps64 rfl ?_; intro B _)
  repeat' (first | apply v_seq | apply v_region | apply v_nil | (apply v_pure; (case hop => first | (apply p_move <;> rfl) | (apply p_assign <;> rfl) | fail); (case hd => rfl)) | fail)
  refine v_call (μ1 := []) (μ2 := []) rfl q (List.Perm.refl _) rfl ?_
  rintro r G1 ν - ⟨hG1, hg⟩
  subst hG1
  obtain ⟨hxl, ⟨rfl, h0, rfl⟩ | ⟨b, cap, spare, rfl, rfl, hc1, hc2, hc3⟩⟩ := hg
  · have hl0 : l = [] := List.eq_nil_of_length_eq_zero h0
    subst hl0
    repeat' (first | apply v_seq | apply v_region | apply v_nil | apply v_block | (apply v_pure; (case hop => first | (apply p_move <;> rfl) | (apply p_assign <;> rfl) | (apply p_lenSlice <;> rfl) | fail); (case hd => rfl)) | fail)
    refine v_loop [9, 8, 3] (fun us G' μ' => G' = G1 ∧ us = [Value.int .i64 (0 : Nat), .int .i64 (0 : Nat), .slice none 0 0] ∧ μ' = []) (fun us => 0) rfl ⟨rfl, rfl, rfl⟩ ?_
    rintro us G' _ ⟨rfl, rfl, rfl⟩
    repeat' (first | apply v_seq | apply v_region | apply v_nil | (apply v_exit; (case hp => rfl)) | (apply v_pure; (case hop => first | (apply p_move <;> rfl) | (apply p_lt <;> rfl) | (apply p_assign <;> rfl) | fail); (case hd => rfl)) | (apply v_cond; (case hc => rfl); all_goals (intro h; (try simp only [reduceCtorEq, dec_true, dec_false, decide_eq_true_eq, decide_eq_false_iff_not, Bool.not_eq_true', Bool.not_eq_false', Option.isNone_iff_eq_none, beq_true, beq_false, beq_iff_eq, beq_eq_false_iff_ne, ne_eq, decide_eq_decide, Bool.not_eq_true, Bool.not_eq_false, Decidable.not_not] at h); first | (exfalso; omega) | skip)) | fail)
    refine v_ret [] (outsA1 rfl rfl) (by repeat (first | exact List.Sublist.refl _ | fail)) ?_
    exact ⟨rfl, Grow.nil _ _⟩
  · simp only [maxLen] at hc2
    rw [List.length_append, rowC_length Pr.len] at hc3
    repeat' (first | apply v_seq | apply v_region | apply v_nil | apply v_block | (apply v_pure; (case hop => first | (apply p_move <;> rfl) | (apply p_assign <;> rfl) | (apply p_lenSlice <;> rfl) | fail); (case hd => rfl)) | fail)
    refine v_loop [9, 8, 3] (fun us G' μ' => G' = G1 ∧ ∃ k : Nat, k ≤ l.length ∧ us = [Value.int .i64 (k : Nat), .int .i64 (l.length : Nat), .slice (some ⟨b, 0, none⟩) l.length cap] ∧ μ' = [(b, .cells (rowC Pr.cells (plainK l k) ++ spare).toArray 65 (0, 0))]) (fun us => l.length - (headI us).toNat) rfl ⟨rfl, 0, by omega, rfl, rfl⟩ ?_
    rintro us G' _ ⟨hG', k, hk, rfl, rfl⟩
    subst hG'
    by_cases hlt : k < l.length
    · have hov : over (rowC Pr.cells (plainK l k) ++ spare) (k * 3 + 2) [.int .i64 0] = rowC Pr.cells (plainK l (k + 1)) ++ spare := by
        rw [plainK_at hlt, plainK_next hlt, rowC_append, rowC_append, rowC_cons, rowC_cons, List.append_assoc, List.append_assoc, List.append_assoc, List.append_assoc]
        exact rev_over _ _ _ _ (by rw [rowC_length Pr.len, List.length_map, List.length_take, Nat.min_eq_left (by omega)])
      have hfit : k * 3 + 2 + 1 ≤ (rowC Pr.cells (plainK l k) ++ spare).length := by
        rw [List.length_append, rowC_length Pr.len]
        unfold plainK
        rw [List.length_append, List.length_map, List.length_take, List.length_drop]
        omega
      repeat' (first | (apply v_pure; (case hop => apply p_idxOwn2; (case hx => rfl); (case hi => rfl); (case h => omega)); (case hd => rfl)) | apply v_seq | apply v_region | apply v_nil | apply v_skip | apply v_block | apply v_blk | (apply v_pure; (case hop => first | (apply p_move <;> rfl) | (apply p_lt <;> rfl) | (apply p_assign <;> rfl) | (apply p_fieldAddrB <;> rfl) | (apply p_add; (case hx => rfl); (case hy => rfl); (case h => omega)) | fail); (case hd => rfl)) | (apply v_cond; (case hc => rfl); all_goals (intro h; (try simp only [reduceCtorEq, dec_true, dec_false, decide_eq_true_eq, decide_eq_false_iff_not, Bool.not_eq_true', Bool.not_eq_false', Option.isNone_iff_eq_none, beq_true, beq_false, beq_iff_eq, beq_eq_false_iff_ne, ne_eq, decide_eq_decide, Bool.not_eq_true, Bool.not_eq_false, Decidable.not_not] at h); first | (exfalso; omega) | skip)) | (apply v_store; (case hp => rfl); (case hx => rfl); (case hc => rfl); (case hsz => rfl); (case h1 => rfl); (case hb => (repeat (first | exact List.Mem.head _ | fail))); (case hfit => exact hfit); (case hov => exact hov); (case hu => (repeat (first | exact Upd.here _ _ | fail)))) | fail)
      exact v_again rfl ⟨rfl, k + 1, by omega, rfl, rfl⟩ (by simp [headI]; omega)
    · obtain rfl : k = l.length := by omega
      have e1 : plainK l l.length = l.map plainOf := by unfold plainK; simp
      rw [e1]
      repeat' (first | apply v_seq | apply v_region | apply v_nil | (apply v_exit; (case hp => rfl)) | (apply v_pure; (case hop => first | (apply p_move <;> rfl) | (apply p_lt <;> rfl) | (apply p_assign <;> rfl) | fail); (case hd => rfl)) | (apply v_cond; (case hc => rfl); all_goals (intro h; (try simp only [reduceCtorEq, dec_true, dec_false, decide_eq_true_eq, decide_eq_false_iff_not, Bool.not_eq_true', Bool.not_eq_false', Option.isNone_iff_eq_none, beq_true, beq_false, beq_iff_eq, beq_eq_false_iff_ne, ne_eq, decide_eq_decide, Bool.not_eq_true, Bool.not_eq_false, Decidable.not_not] at h); first | (exfalso; omega) | skip)) | fail)
      refine v_ret [(b, _)] (outsA1 rfl rfl) (List.Sublist.refl _) ⟨rfl, ?_⟩
      unfold GrP
      rw [List.length_map]
      exact ⟨by rw [rowC_length Pr.len, List.length_map], .inr ⟨b, cap, spare, rfl, rfl, hc1, by simp only [maxLen]; omega, by rw [List.length_append, rowC_length Pr.len, List.length_map]; exact hc3⟩⟩
end Go.Proofs.YtgflmkhfachlcaaGreatDoor
/-
  Lending: what is proved of a call that reads frozen blocks holds of a call that reads blocks of ours.
-/
set_option linter.unusedSimpArgs false
set_option linter.unusedVariables false
namespace Go.Proofs.YtgflmkhfachlcaaGreatDoor
open Go.Vx Go.ChangeShapes Go.WideShapes Go.ChangeAt Go.RowKit
theorem Mem.lent {G : GH} {μ ν : OH} {w : World} (h : Mem G (ν ++ μ) w) : Mem (GH.put G ν) μ w := by
  have hs := (Step.refl h).freeze
  exact hs.mem
theorem Con.lend {P : Program} {f : FuncId} {args : Array Value} {G : GH} {ν μ : OH} {Ψ : Value → OH → Prop}
    (h : ∀ G', GH.le G G' → (∀ b o, (b, o) ∈ ν → G' b = some o) → Con P f args G' μ (fun v _ μ' => Ψ v μ')) :
    Con P f args G (ν ++ μ) (fun v G' μ' => G' = G ∧ ∃ μ1, Ψ v μ1 ∧ μ' = ν ++ μ1) := by
  unfold Con at h ⊢
  intro w hw
  have hn := hw.nodup
  rw [List.map_append, List.nodup_append] at hn
  have hin : ∀ b o, (b, o) ∈ ν → GH.put G ν b = some o := fun b o hb => GH.put_mem hn.1 (hw.apart b o (List.mem_append_left _ hb)) hb
  refine (h (GH.put G ν) (GH.le_put _ _) hin w (Mem.lent hw)).mono ?_
  rintro v w' ⟨G2, μ1, hs, hΨ⟩
  refine ⟨G, ν ++ μ1, ⟨⟨fun b o hb => hs.mem.g b o (hs.le b o (GH.le_put G ν b o hb)), fun b o hb => ?_, ?_, fun b o hb => ?_⟩, GH.le_refl _, hs.os, hs.tape, hs.output, hs.size, fun b hb hno => hs.same b hb fun o ho => hno o (List.mem_append_right _ ho), fun b o hb => ?_, fun b o hb => .inl ⟨o, hb⟩⟩, rfl, μ1, hΨ, rfl⟩
  · rcases List.mem_append.1 hb with hb | hb
    · exact hs.mem.g b o (hs.le b o (hin b o hb))
    · exact hs.mem.own b o hb
  · rw [List.map_append, List.nodup_append]
    refine ⟨hn.1, hs.mem.nodup, fun a ha b hb e => ?_⟩
    subst e
    obtain ⟨⟨a1, o1⟩, h1, rfl⟩ := List.mem_map.1 ha
    obtain ⟨⟨a2, o2⟩, h2, e2⟩ := List.mem_map.1 hb
    simp only at e2
    subst e2
    have := hs.mem.apart _ _ h2
    rw [hs.le _ _ (hin _ _ h1)] at this
    cases this
  · rcases List.mem_append.1 hb with hb | hb
    · exact hw.apart b o (List.mem_append_left _ hb)
    · have := hs.mem.apart b o hb
      cases hg : G b with
      | none => rfl
      | some o' =>
        rw [hs.le _ _ (GH.le_put G ν b o' hg)] at this
        cases this
  · rcases List.mem_append.1 hb with hb | hb
    · exact .inl ⟨o, List.mem_append_left _ hb⟩
    · rcases hs.mine b o hb with ⟨o', h'⟩ | h'
      · exact .inl ⟨o', List.mem_append_right _ h'⟩
      · exact .inr h'
theorem Con.lendJ {P : Program} {f : FuncId} {args : Array Value} {G : GH} {ν : OH} {v : Value}
    (h : ∀ G', GH.le G G' → (∀ b o, (b, o) ∈ ν → G' b = some o) → Con P f args G' [] (Just v G')) : Con P f args G ν (Keeps v G ν) := by
  have := Con.lend (G := G) (ν := ν) (μ := []) (Ψ := fun u μ' => u = v ∧ μ' = []) fun G' h1 h2 => (h G' h1 h2).mono fun _ _ _ h => ⟨h.1, h.2.2⟩
  rw [List.append_nil] at this
  exact this.mono fun u G' μ' ⟨h1, μ1, ⟨h2, h3⟩, h4⟩ => ⟨h2, h1, by rw [h4, h3, List.append_nil]⟩
/-- Of a call that gives fresh blocks. -/
theorem Con.lendF {P : Program} {f : FuncId} {args : Array Value} {G : GH} {ν : OH} {Ψ : Value → OH → Prop}
    (h : ∀ G', GH.le G G' → (∀ b o, (b, o) ∈ ν → G' b = some o) → Con P f args G' [] (fun v _ μ' => Ψ v μ')) :
    Con P f args G ν (fun v G' μ' => G' = G ∧ ∃ μ1, Ψ v μ1 ∧ μ' = ν ++ μ1) := by
  have := Con.lend (G := G) (ν := ν) (μ := []) h
  rwa [List.append_nil] at this
theorem Src.cap {G : GH} {μ : OH} {A : Option Addr} {m c c' sz : Nat} {us : List Value} (h : Vx.Src G μ (.slice A m c) m sz us) : Vx.Src G μ (.slice A m c') m sz us := by
  obtain ⟨h1, A1, c1, he, h2⟩ := h
  injection he with ea _ ec
  subst ea
  exact ⟨h1, A, c', rfl, h2⟩
section
variable {P : Program} {σ : Env} {G : GH} {μ : OH} {t ty : TypeId} {bytes : Nat} {zero : Value}
end
end Go.Proofs.YtgflmkhfachlcaaGreatDoor
/-
  kvone, kvtwo (layers 23, 24): kvtwo.Check; the place of a key, its pair; put, del.
-/
set_option linter.unusedSimpArgs false
set_option linter.unusedVariables false
namespace Go.Proofs.YtgflmkhfachlcaaGreatDoor
open Go.Vx Go.ChangeShapes Go.WideShapes Go.ChangeAt Go.RowKit
theorem sized_plain {l : List Pr} (h : Sized l) : Sized (l.map plainOf) := fun x hx => by
  obtain ⟨y, hy, rfl⟩ := List.mem_map.1 hx
  exact h y hy
theorem two_iff {l : List Pr} : TwoP l ↔ l.any oddP = false ∧ OneP (l.map plainOf) := by
  have hadj : AdjP (l.map plainOf) ↔ AdjP l := by
    unfold AdjP
    constructor
    · intro h i hi h0
      have := h i (by rw [List.length_map]; exact hi) h0
      simpa [plainOf] using this
    · intro h i hi h0
      rw [List.length_map] at hi
      have := h i hi h0
      simpa [plainOf] using this
  unfold TwoP OneP
  rw [hadj, List.length_map]
  constructor
  · rintro ⟨h1, h2, h3⟩
    refine ⟨?_, h1, h2, fun x hx => ?_⟩
    · rw [List.any_eq_false]
      intro x hx
      have := h3 x hx
      simp only [oddP, decide_eq_true_eq]
      omega
    · obtain ⟨y, hy, rfl⟩ := List.mem_map.1 hx
      exact ⟨(h3 y hy).1, rfl⟩
  · rintro ⟨h0, h1, h2, h3⟩
    rw [List.any_eq_false] at h0
    refine ⟨h1, h2, fun x hx => ?_⟩
    have a := h0 x hx
    have b := h3 _ (List.mem_map.2 ⟨x, hx, rfl⟩)
    simp only [oddP, decide_eq_true_eq] at a
    exact ⟨b.1, by omega, by omega⟩
theorem twoCheck_s {G : GH} (hT : TabsG G) {l : List Pr} {sv : Value} (hs : Prs G sv l) (hz : Sized l) (hn : l.length ≤ 200) : Con Tryz.prog 40 #[sv] G [] (Just (.int .i64 (if TwoP l then 0 else 3)) G) := by
  have q1 := prOddHas_s hs
  have q2 := plainPr_s hs hn
  have hiff := two_iff (l := l)
  apply Con.just
  generalize l.any oddP = od at *
  (refine v_enter Tryz.func40 rfl Tryz.ntmps40 rfl ?_; intro B _)
  repeat' (first | apply v_seq | apply v_region | apply v_nil | apply v_skip | (apply v_pure; (case hop => first | (apply p_move <;> rfl) | (apply p_assign <;> rfl)); (case hd => rfl)) | (apply v_cond; (case hc => rfl); all_goals (intro h; (try simp only [reduceCtorEq, dec_true, dec_false, decide_eq_true_eq, decide_eq_false_iff_not, Bool.not_eq_true', Bool.not_eq_false', Option.isNone_iff_eq_none, beq_true, beq_false, beq_iff_eq, beq_eq_false_iff_ne, ne_eq, decide_eq_decide, Bool.not_eq_true, Bool.not_eq_false, Decidable.not_not] at h); first | skip)) | (apply v_callJ (hs := q1); (case ha => rfl); (case hd => rfl)) | fail)
  · rw [if_neg (fun h => by have := (hiff.1 h).1; simp_all)]
    refine v_ret [] (outsA1 rfl rfl) (by repeat (first | exact List.Sublist.refl _ | fail)) ?_
    exact ⟨rfl, rfl⟩
  · refine v_call (μ1 := []) (μ2 := []) rfl q2 (List.Perm.refl _) rfl ?_
    rintro r G1 ν - ⟨hG1, hg⟩
    subst hG1
    rw [List.append_nil]
    refine v_frzP ν (by rw [List.append_nil]) ?_
    intro G2 hle2 hG2
    have hg' : Grow 65 3 r (l.map plainOf).length (rowC Pr.cells (l.map plainOf)) ν := hg
    have q3 := oneCheck_s (hT.le hle2) (row_of_grow Pr.len hg' hG2) (sized_plain hz)
    have e1 : (if OneP (l.map plainOf) then (0 : Int) else 3) = if TwoP l then 0 else 3 := by
      by_cases h : OneP (l.map plainOf)
      · rw [if_pos h, if_pos (hiff.2 ⟨by assumption, h⟩)]
      · rw [if_neg h, if_neg (fun h2 => h (hiff.1 h2).2)]
    rw [e1] at q3
    repeat' (first | apply v_nil | (apply v_pure; (case hop => first | (apply p_assign <;> rfl)); (case hd => rfl)) | (apply v_callJ (hs := q3); (case ha => rfl); (case hd => rfl)) | fail)
    refine v_ret [] (outsA1 rfl rfl) (by repeat (first | exact List.Sublist.refl _ | fail)) ?_
    exact ⟨rfl, rfl⟩
theorem placeP_s {G : GH} {l : List Pr} {sv : Value} (k : ByteArray) (hs : Prs G sv l) (hr : RiseG ksP l) (hz : Sized l) (hk : k.size ≤ 200) : Con Tryz.prog 100 #[sv, .string k] G [] (Just (.tuple [.int .i64 (placeG ksP l (kn k) : Nat), .bool (hitG ksP l (kn k))].toArray) G) := by
  have qs := prSearch_s k hs hr (fun x hx => (hz x hx).1) hk
  apply Con.just
  (refine v_enter Tryz.func100 rfl Tryz.ntmps100 rfl ?_; intro B _)
  repeat' (first | apply v_seq | apply v_region | apply v_nil | (apply v_pure; (case hop => first | (apply p_move <;> rfl) | (apply p_assign <;> rfl) | (apply p_extract0 <;> rfl) | (apply p_extract1 <;> rfl) | fail); (case hd => rfl)) | (apply v_callJ (hs := qs); (case ha => rfl); (case hd => rfl)) | fail)
  refine v_ret [] (outsA2 rfl rfl rfl) (by repeat (first | exact List.Sublist.refl _ | fail)) ?_
  exact ⟨rfl, rfl⟩
theorem placeG_le {α : Type} (key : α → Int) (l : List α) (n : Int) : placeG key l n ≤ l.length := List.countP_le_length
theorem hitG_lt {α : Type} {key : α → Int} {l : List α} {n : Int} (h : hitG key l n = true) : placeG key l n < l.length := by
  unfold hitG at h
  split at h
  · assumption
  · cases h
def zeroPr : Pr := ⟨ByteArray.empty, ByteArray.empty, 0⟩
def findP (l : List Pr) (n : Int) : Pr := if h : hitG ksP l n = true then l[placeG ksP l n]'(hitG_lt h) else zeroPr
theorem find_s {G : GH} {l : List Pr} {sv : Value} (k : ByteArray) (hs : Prs G sv l) (hr : RiseG ksP l) (hz : Sized l) (hk : k.size ≤ 200) : Con Tryz.prog 90 #[sv, .string k] G [] (Just (.tuple [.agg (findP l (kn k)).cells.toArray, .bool (hitG ksP l (kn k))].toArray) G) := by
  have qs := placeP_s k hs hr hz hk
  obtain ⟨A, c, rfl, hlc, hcm, hsome, hcp⟩ := rowOpen hs
  simp only [maxLen] at hcm
  apply Con.just
  cases hh : hitG ksP l (kn k) with
  | false =>
    rw [hh] at qs
    have ef : findP l (kn k) = zeroPr := by unfold findP; rw [dif_neg (by rw [hh]; simp)]
    rw [ef]
    (refine v_enter Tryz.func90 rfl Tryz.ntmps90 rfl ?_; intro B _)
    repeat' (first | apply v_seq | apply v_region | apply v_nil | (apply v_pure; (case hop => first | (apply p_move <;> rfl) | (apply p_assign <;> rfl) | (apply p_not <;> rfl) | (apply p_extract0 <;> rfl) | (apply p_extract1 <;> rfl) | (apply p_build; (case hz => rfl); (case hv => (simp only [List.map_cons, List.map_nil]; repeat (first | with_reducible exact evs_nil | fail))); (case hb => (apply bldL; repeat (first | exact bld_nil | fail))))); (case hd => rfl)) | (apply v_condT; (case hc => rfl)) | (apply v_callJ (hs := qs); (case ha => rfl); (case hd => rfl)) | (apply v_alloc; (case hz => rfl); (case hd => rfl); intro b) | (apply v_store; (case hp => rfl); (case hx => rfl); (case hc => rfl); (case hsz => rfl); (case h1 => rfl); (case hb => (repeat (first | exact List.Mem.head _ | fail))); (case hfit => first | exact Nat.le_of_ble_eq_true rfl | fail); (case hov => (first | ((repeat (first | with_reducible exact ov_nil | apply ov_cons | fail)); done) | fail)); (case hu => repeat (first | exact Upd.here _ _ | fail))) | fail)
    refine v_retM [] (outsM_cell_tmp (sz := 3) (vs := zeroPr.cells) (e := 65) rfl rfl rfl (by (repeat (first | exact List.Mem.head _ | fail))) rfl) (List.nil_sublist _) ?_
    exact ⟨rfl, rfl⟩
  | true =>
    have hlt := hitG_lt hh
    have ef : findP l (kn k) = l[placeG ksP l (kn k)]'hlt := by unfold findP; rw [dif_pos hh]
    rw [hh] at qs
    rw [ef]
    have hck := hcp _ hlt
    have hA := hsome (by omega)
    generalize l[placeG ksP l (kn k)] = x at *
    generalize placeG ksP l (kn k) = i at *
    have e1 : ((i : Nat) : Int).toNat = i := by omega
    (refine v_enter Tryz.func90 rfl Tryz.ntmps90 rfl ?_; intro B _)
    repeat' (first | apply v_seq | apply v_region | apply v_nil | apply v_skip | (apply v_pure; (case hop => first | (apply p_move <;> rfl) | (apply p_assign <;> rfl) | (apply p_not <;> rfl) | (apply p_extract0 <;> rfl) | (apply p_extract1 <;> rfl) | (apply p_indexAddrS; (case hx => rfl); (case hi => rfl); (case h0 => omega); (case h => omega); (case hA => first | assumption | fail)) | fail); (case hd => rfl)) | (apply v_condF; (case hc => rfl)) | (apply v_callJ (hs := qs); (case ha => rfl); (case hd => rfl)) | (apply v_read; (case hop => (apply r_loadN; rfl; exact CellsAt.frozen hck; rfl)); (case hd => rfl)) | (apply v_alloc; (case hz => rfl); (case hd => rfl); intro b) | (apply v_store; (case hp => rfl); (case hx => rfl); (case hc => rfl); (case hsz => rfl); (case h1 => rfl); (case hb => (repeat (first | exact List.Mem.head _ | fail))); (case hfit => first | exact Nat.le_of_ble_eq_true rfl | fail); (case hov => (first | ((repeat (first | with_reducible exact ov_nil | apply ov_cons | fail)); done) | fail)); (case hu => repeat (first | exact Upd.here _ _ | fail))) | fail)
    refine v_retM [] (outsM_cell_tmp (sz := 3) (vs := x.cells) (e := 65) rfl rfl rfl (by (repeat (first | exact List.Mem.head _ | fail))) rfl) (List.nil_sublist _) ?_
    exact ⟨rfl, rfl⟩
theorem over_at (p x y t sp : List Value) (h : y.length = x.length) : over (p ++ (x ++ t) ++ sp) p.length y = p ++ (y ++ t) ++ sp := by
  unfold over
  rw [List.append_assoc p, List.take_left, ← List.drop_drop, List.drop_left, h, List.append_assoc x, List.drop_left]
  simp
theorem rowC_set {α : Type} {f : α → List Value} {sz : Nat} (hf : ∀ x, (f x).length = sz) (l : List α) (i : Nat) (hi : i < l.length) (y : α) (sp : List Value) : over (rowC f l ++ sp) (i * sz) (f y) = rowC f (l.set i y) ++ sp := by
  have h1 : (rowC f (l.take i)).length = i * sz := by rw [rowC_length hf, List.length_take, Nat.min_eq_left (by omega)]
  have e : rowC f l = rowC f (l.take i) ++ (f l[i] ++ rowC f (l.drop (i + 1))) := by rw [← rowC_cons, ← List.drop_eq_getElem_cons hi, ← rowC_append, List.take_append_drop]
  have e2 : l.set i y = l.take i ++ y :: l.drop (i + 1) := by
    rw [List.set_eq_take_append_cons_drop, if_pos hi]
  rw [e2, e, rowC_append, rowC_cons, ← h1]
  exact over_at _ _ _ _ _ (by rw [hf, hf])
/-- Pairs with one more in its place, if there is room; whether there was. -/
def putP (l : List Pr) (p : Pr) : List Pr × Bool := if hitG ksP l (kn p.key) = true then (l.set (placeG ksP l (kn p.key)) p, true) else if 64 ≤ l.length then (l, false) else (l.take (placeG ksP l (kn p.key)) ++ p :: l.drop (placeG ksP l (kn p.key)), true)
def delP (l : List Pr) (n : Int) : List Pr := if hitG ksP l n = true then l.take (placeG ksP l n) ++ l.drop (placeG ksP l n + 1) else l
theorem lendPlace {G : GH} {l : List Pr} {v : Value} {ν : OH} (k : ByteArray) (hg : GrP v l ν) (hr : RiseG ksP l) (hz : Sized l) (hk : k.size ≤ 200) : Con Tryz.prog 100 #[v, .string k] G ν (Keeps (.tuple [.int .i64 (placeG ksP l (kn k) : Nat), .bool (hitG ksP l (kn k))].toArray) G ν) :=
  Con.lendJ fun G' _ h2 => placeP_s k (row_of_grow Pr.len hg h2) hr hz hk
theorem put_s {G : GH} {l : List Pr} {v : Value} {ν : OH} (p : Pr) (hg : GrP v l ν) (hr : RiseG ksP l) (hz : Sized l) (hk : p.key.size ≤ 200) (hn : l.length ≤ 200) : Con Tryz.prog 91 #[v, .agg p.cells.toArray] G ν (fun r G' μ' => G' = G ∧ ∃ v', r = .tuple [v', .bool (putP l p).2].toArray ∧ GrP v' (putP l p).1 μ' ∧ ((putP l p).2 = false → v' = v)) := by
  have qp := lendPlace (G := G) p.key hg hr hz hk
  have hpl := placeG_le ksP l (kn p.key)
  unfold putP
  cases hh : hitG ksP l (kn p.key) with
  | true =>
    have hlt := hitG_lt hh
    rw [if_pos rfl]
    rw [hh] at qp
    obtain ⟨hxl, ⟨rfl, h0, rfl⟩ | ⟨b, cap, spare, rfl, rfl, hc1, hc2, hc3⟩⟩ := hg
    · omega
    have hov := rowC_set Pr.len l _ hlt p spare
    generalize placeG ksP l (kn p.key) = i at *
    have hlen := rowC_length Pr.len l
    (refine v_enter Tryz.func91 rfl Tryz.ntmps91 rfl ?_; intro B _)
    repeat' (first | (apply v_box (zs := p.cells); (case hx => rfl); (case hz => rfl); (case hd => rfl); intro bp) | (apply v_pure; (case hop => apply p_idxOwn2; (case hx => rfl); (case hi => rfl); (case h => omega)); (case hd => rfl)) | apply v_seq | apply v_region | apply v_nil | apply v_block | apply v_blk | (apply v_pure; (case hop => first | (apply p_move <;> rfl) | (apply p_assign <;> rfl) | (apply p_fieldAddrB <;> rfl) | (apply p_extract0 <;> rfl) | (apply p_extract1 <;> rfl) | fail); (case hd => rfl)) | (apply v_condT; (case hc => rfl)) | (apply v_callK (hs := qp) (μ2 := [(bp, .cells p.cells.toArray 65 (0, 0))]); (case ha => rfl); (case hp => exact List.Perm.swap _ _ _); (case hd => rfl)) | (apply v_store (us := p.cells); (case hp => rfl); (case hx => rfl); (case hc => rfl); (case hsz => rfl); (case h1 => rfl); (case hb => (repeat (first | exact List.Mem.head _ | apply List.Mem.tail))); (case hfit => rw [List.length_append, hlen, Pr.len]; omega); (case hov => exact hov); (case hu => (repeat (first | exact Upd.here _ _ | apply Upd.there)))) | (apply v_read; (case hop => first | (apply r_loadNo; (case hx => rfl); (case h => (repeat (first | exact List.Mem.head _ | fail))); (case hd => (repeat (first | with_reducible exact dt_nil | apply dt_here | fail))); (case hn => rfl)) | (apply r_load1; rfl; (apply Cell.own; (case h => (repeat (first | exact List.Mem.head _ | fail))); rfl)) | fail); (case hd => rfl)) | fail)
    refine v_ret [(b, _)] (outsA2 rfl rfl rfl) (List.Sublist.cons _ (List.Sublist.refl _)) ⟨rfl, _, rfl, ?_, fun h => (by cases h)⟩
    have hsl : (l.set i p).length = l.length := List.length_set ..
    unfold GrP
    simp only [hsl]
    exact ⟨by rw [rowC_length Pr.len, hsl], .inr ⟨b, cap, spare, rfl, rfl, hc1, hc2, by rw [List.length_append, rowC_length Pr.len, hsl]; rw [List.length_append, hlen] at hc3; exact hc3⟩⟩
  | false =>
    rw [hh] at qp
    rw [if_neg (by simp)]
    obtain ⟨A, c, rfl, hA1, hA2⟩ := hg.shape
    simp only [maxLen] at hA2
    by_cases h64 : 64 ≤ l.length
    · rw [if_pos h64]
      (refine v_enter Tryz.func91 rfl Tryz.ntmps91 rfl ?_; intro B _)
      repeat' (first | (apply v_box (zs := p.cells); (case hx => rfl); (case hz => rfl); (case hd => rfl); intro bp) | apply v_seq | apply v_region | apply v_nil | apply v_block | (apply v_pure; (case hop => first | (apply p_move <;> rfl) | (apply p_ge <;> rfl) | (apply p_assign <;> rfl) | (apply p_lenSlice <;> rfl) | (apply p_fieldAddrB <;> rfl) | (apply p_extract0 <;> rfl) | (apply p_extract1 <;> rfl) | fail); (case hd => rfl)) | (apply v_condF; (case hc => rfl)) | (apply v_cond; (case hc => rfl); all_goals (intro h; (try simp only [reduceCtorEq, dec_true, dec_false, decide_eq_true_eq, decide_eq_false_iff_not, Bool.not_eq_true', Bool.not_eq_false', Option.isNone_iff_eq_none, beq_true, beq_false, beq_iff_eq, beq_eq_false_iff_ne, ne_eq, decide_eq_decide, Bool.not_eq_true, Bool.not_eq_false, Decidable.not_not] at h); first | (exfalso; omega) | skip)) | (apply v_callK (hs := qp) (μ2 := [(bp, .cells p.cells.toArray 65 (0, 0))]); (case ha => rfl); (case hp => exact (List.perm_append_comm (l₁ := [_]))); (case hd => rfl)) | (apply v_read; (case hop => first | (apply r_load1; rfl; (apply Cell.own; (case h => (repeat (first | exact List.Mem.head _ | fail))); rfl)) | fail); (case hd => rfl)) | fail)
      refine v_ret ν (outsA2 rfl rfl rfl) (List.sublist_cons_self _ _) ⟨rfl, _, rfl, hg, fun _ => rfl⟩
    · rw [if_neg h64]
      have hq := fun b2 => prInsert_s (G := G) p b2 (placeG ksP l (kn p.key)) hg hpl hn
      have hil : (l.take (placeG ksP l (kn p.key)) ++ p :: l.drop (placeG ksP l (kn p.key))).length = l.length + 1 := by
        rw [List.length_append, List.length_cons, List.length_take, List.length_drop]; omega
      generalize placeG ksP l (kn p.key) = i at *
      (refine v_enter Tryz.func91 rfl Tryz.ntmps91 rfl ?_; intro B _)
      repeat' (first | (apply v_box (zs := p.cells); (case hx => rfl); (case hz => rfl); (case hd => rfl); intro bp) | apply v_seq | apply v_region | apply v_nil | apply v_block | (apply v_pure; (case hop => first | (apply p_move <;> rfl) | (apply p_ge <;> rfl) | (apply p_assign <;> rfl) | (apply p_lenSlice <;> rfl) | (apply p_fieldAddrB <;> rfl) | (apply p_extract0 <;> rfl) | (apply p_extract1 <;> rfl) | fail); (case hd => rfl)) | (apply v_condF; (case hc => rfl)) | (apply v_cond; (case hc => rfl); all_goals (intro h; (try simp only [reduceCtorEq, dec_true, dec_false, decide_eq_true_eq, decide_eq_false_iff_not, Bool.not_eq_true', Bool.not_eq_false', Option.isNone_iff_eq_none, beq_true, beq_false, beq_iff_eq, beq_eq_false_iff_ne, ne_eq, decide_eq_decide, Bool.not_eq_true, Bool.not_eq_false, Decidable.not_not] at h); first | (exfalso; omega) | skip)) | (apply v_callK (hs := qp) (μ2 := [(bp, .cells p.cells.toArray 65 (0, 0))]); (case ha => rfl); (case hp => exact (List.perm_append_comm (l₁ := [_]))); (case hd => rfl)) | (apply v_read; (case hop => first | (apply r_loadNo; (case hx => rfl); (case h => (repeat (first | exact List.Mem.head _ | fail))); (case hd => (repeat (first | with_reducible exact dt_nil | apply dt_here | fail))); (case hn => rfl)) | (apply r_load1; rfl; (apply Cell.own; (case h => (repeat (first | exact List.Mem.head _ | fail))); rfl)) | fail); (case hd => rfl)) | (apply v_buildSlice; (case hz => rfl); (case hi => rfl); (case hv => (simp only [List.map_cons, List.map_nil]; repeat (first | with_reducible exact evs_nil | (apply evs_cons; (case h1 => rfl))))); (case hp => (first | (apply pk_cons; (case hc => rfl); (case hs => rfl); (case h => (first | with_reducible exact pk_nil | fail)); (case he => (first | ((repeat (first | with_reducible exact ap_nil | apply ap_cons)); done) | fail))) | fail)); (case hb => rfl); (case hd => rfl); intro b) | fail)
      refine v_call (μ1 := ν ++ [(b, .cells p.cells.toArray 65 (0, 0))]) (μ2 := [(bp, .cells p.cells.toArray 65 (0, 0))]) rfl (hq b) ?_ rfl ?_
      · exact (by apply perm_of_count; intro p; simp only [List.append_eq, List.countP_append, List.countP_cons, List.countP_nil, Nat.zero_add, Nat.add_zero]; try ac_rfl)
      rintro v' G1 ν1 - ⟨hG1, hg1⟩
      subst hG1
      repeat' (first | apply v_seq | apply v_region | apply v_nil | apply v_blk | (apply v_pure; (case hop => first | (apply p_move <;> rfl) | (apply p_assign <;> rfl) | fail); (case hd => rfl)) | fail)
      refine v_ret ν1 (outsA2 rfl rfl rfl) (List.sublist_append_left _ _) ⟨rfl, _, rfl, ?_, fun h => (by cases h)⟩
      unfold GrP
      rw [hil]
      exact hg1
theorem del_s {G : GH} {l : List Pr} {v : Value} {ν : OH} (k : ByteArray) (hg : GrP v l ν) (hr : RiseG ksP l) (hz : Sized l) (hk : k.size ≤ 200) (hn : l.length ≤ 200) : Con Tryz.prog 92 #[v, .string k] G ν (fun r G' μ' => G' = G ∧ GrP r (delP l (kn k)) μ') := by
  have qp := lendPlace (G := G) k hg hr hz hk
  unfold delP
  cases hh : hitG ksP l (kn k) with
  | true =>
    have hlt := hitG_lt hh
    rw [if_pos rfl]
    rw [hh] at qp
    have q := prDelete_s (G := G) (placeG ksP l (kn k)) hg hlt hn
    generalize placeG ksP l (kn k) = i at *
    (refine v_enter Tryz.func92 rfl Tryz.ntmps92 rfl ?_; intro B _)
    repeat' (first | apply v_seq | apply v_region | apply v_nil | (apply v_pure; (case hop => first | (apply p_move <;> rfl) | (apply p_assign <;> rfl) | (apply p_extract0 <;> rfl) | (apply p_extract1 <;> rfl) | (apply p_add; (case hx => rfl); (case hy => rfl); (case h => omega))); (case hd => rfl)) | (apply v_condT; (case hc => rfl)) | (apply v_callK (hs := qp) (μ2 := []); (case ha => rfl); (case hp => exact List.Perm.of_eq (List.append_nil _).symm); (case hd => rfl)) | fail)
    refine v_call (μ1 := ν) (μ2 := []) rfl q (List.Perm.of_eq (List.append_nil _).symm) rfl ?_
    rintro v' G1 ν1 - ⟨hG1, hg1⟩
    subst hG1
    repeat' (first | apply v_nil | (apply v_pure; (case hop => first | (apply p_assign <;> rfl) | fail); (case hd => rfl)) | fail)
    exact v_ret ν1 (outsA1 rfl rfl) (List.sublist_append_left _ _) ⟨rfl, hg1⟩
  | false =>
    rw [hh] at qp
    rw [if_neg (by simp)]
    (refine v_enter Tryz.func92 rfl Tryz.ntmps92 rfl ?_; intro B _)
    repeat' (first | apply v_seq | apply v_region | apply v_nil | apply v_skip | (apply v_pure; (case hop => first | (apply p_move <;> rfl) | (apply p_assign <;> rfl) | (apply p_extract0 <;> rfl) | (apply p_extract1 <;> rfl) | fail); (case hd => rfl)) | (apply v_condF; (case hc => rfl)) | (apply v_callK (hs := qp) (μ2 := []); (case ha => rfl); (case hp => exact List.Perm.of_eq (List.append_nil _).symm); (case hd => rfl)) | fail)
    exact v_ret ν (outsA1 rfl rfl) (List.Sublist.refl _) ⟨rfl, hg⟩
end Go.Proofs.YtgflmkhfachlcaaGreatDoor
/-
  Lists whose keys rise, in plain Lean: places, what is put and taken away, as filters.
-/
set_option linter.unusedSimpArgs false
set_option linter.unusedVariables false
namespace Go.Proofs.YtgflmkhfachlcaaGreatDoor
open Go.Vx Go.ChangeShapes Go.WideShapes Go.ChangeAt Go.RowKit
section
variable {α : Type} {key : α → Int}
abbrev RiseW (key : α → Int) (l : List α) : Prop := l.Pairwise fun a b => key a < key b
theorem riseG_pw {l : List α} : RiseG key l ↔ RiseW key l := by
  unfold RiseG RiseW
  rw [List.pairwise_iff_getElem]
  constructor
  · intro h i j hi hj hij; exact h i j hj hij
  · intro h i j hj hij; exact h i j (by omega) hj hij
theorem place_parts {l : List α} (h : RiseW key l) (n : Int) : l.take (placeG key l n) = l.filter (fun x => decide (key x < n)) ∧ l.drop (placeG key l n) = l.filter (fun x => decide (n ≤ key x)) := by
  induction l with
  | nil => simp [placeG]
  | cons a l ih =>
    have h := List.pairwise_cons.1 h
    obtain ⟨i1, i2⟩ := ih h.2
    unfold placeG at i1 i2 ⊢
    by_cases ha : key a < n
    · have hn : ¬ n ≤ key a := by omega
      rw [List.countP_cons_of_pos (by simpa using ha), List.take_succ_cons, List.drop_succ_cons, i1, i2, List.filter_cons_of_pos (by simpa using ha), List.filter_cons_of_neg (by simpa using hn)]
      exact ⟨rfl, rfl⟩
    · have h0 : ∀ x ∈ a :: l, ¬ key x < n := fun x hx => by
        rcases List.mem_cons.1 hx with rfl | hx
        · exact ha
        · have := h.1 x hx; omega
      have e0 : (a :: l).countP (fun x => decide (key x < n)) = 0 := List.countP_eq_zero.2 fun x hx => by simpa using h0 x hx
      rw [e0, List.take_zero, List.drop_zero]
      refine ⟨(List.filter_eq_nil_iff.2 fun x hx => by simpa using h0 x hx).symm, (List.filter_eq_self.2 fun x hx => ?_).symm⟩
      have := h0 x hx
      simp only [decide_eq_true_eq]
      omega
def withG (key : α → Int) (l : List α) (p : α) : List α := l.filter (fun x => decide (key x < key p)) ++ p :: l.filter (fun x => decide (key p < key x))
theorem hit_parts {l : List α} (h : RiseW key l) (n : Int) : (∃ hlt : placeG key l n < l.length, hitG key l n = true ∧ key (l[placeG key l n]) = n ∧ l.drop (placeG key l n + 1) = l.filter (fun x => decide (n < key x))) ∨ (hitG key l n = false ∧ (∀ x ∈ l, key x ≠ n) ∧ l.drop (placeG key l n) = l.filter (fun x => decide (n < key x))) := by
  obtain ⟨h1, h2⟩ := place_parts h n
  have hle := placeG_le key l n
  have hall : (∀ x ∈ l, key x ≠ n) → l.filter (fun x => decide (n ≤ key x)) = l.filter (fun x => decide (n < key x)) := fun hx => List.filter_congr fun x hm => by
    have := hx x hm
    rw [Bool.eq_iff_iff, decide_eq_true_iff, decide_eq_true_iff]
    omega
  have hge : ∀ x ∈ l.drop (placeG key l n), n ≤ key x := fun x hx => by
    rw [h2, List.mem_filter] at hx
    simpa using hx.2
  have hlt' : ∀ x ∈ l.take (placeG key l n), key x < n := fun x hx => by
    rw [h1, List.mem_filter] at hx
    simpa using hx.2
  by_cases hlt : placeG key l n < l.length
  · have hd := List.drop_eq_getElem_cons hlt
    have hpw : RiseW key (l.drop (placeG key l n)) := List.Pairwise.sublist (List.drop_sublist _ _) h
    rw [hd] at hpw
    have hpw := List.pairwise_cons.1 hpw
    by_cases hk : key (l[placeG key l n]) = n
    · refine .inl ⟨hlt, ?_, hk, ?_⟩
      · unfold hitG; rw [dif_pos hlt]; exact decide_eq_true hk
      · have e : l.filter (fun x => decide (n < key x)) = (l.filter (fun x => decide (n ≤ key x))).filter (fun x => decide (n < key x)) := by
          rw [List.filter_filter]
          exact List.filter_congr fun x _ => by rw [Bool.eq_iff_iff]; simp; omega
        rw [e, ← h2, hd, List.filter_cons_of_neg (by simp; omega)]
        exact (List.filter_eq_self.2 fun x hx => by have := hpw.1 x hx; simp; omega).symm
    · have hno : ∀ x ∈ l, key x ≠ n := fun x hx => by
        rw [← List.take_append_drop (placeG key l n) l, List.mem_append] at hx
        rcases hx with hx | hx
        · have := hlt' x hx; omega
        · have a := hge _ (by rw [hd]; exact List.mem_cons_self : l[placeG key l n] ∈ l.drop (placeG key l n))
          rw [hd] at hx
          rcases List.mem_cons.1 hx with rfl | hx
          · exact hk
          · have := hpw.1 x hx; omega
      refine .inr ⟨?_, hno, by rw [h2, hall hno]⟩
      unfold hitG; rw [dif_pos hlt]; exact decide_eq_false hk
  · have hno : ∀ x ∈ l, key x ≠ n := fun x hx => by
      have : placeG key l n = l.length := by omega
      rw [this, List.take_length] at hlt'
      have := hlt' x hx
      omega
    refine .inr ⟨?_, hno, by rw [h2, hall hno]⟩
    unfold hitG; rw [dif_neg hlt]
theorem hit_iff {l : List α} (h : RiseW key l) {n : Int} : hitG key l n = true ↔ ∃ x ∈ l, key x = n := by
  rcases hit_parts h n with ⟨hlt, h1, h2, -⟩ | ⟨h1, h2, -⟩
  · exact ⟨fun _ => ⟨_, List.getElem_mem hlt, h2⟩, fun _ => h1⟩
  · rw [h1]
    exact ⟨fun h => (by cases h), fun ⟨x, hx, e⟩ => absurd e (h2 x hx)⟩
theorem ins_with {l : List α} (h : RiseW key l) (p : α) : (if hitG key l (key p) = true then l.set (placeG key l (key p)) p else l.take (placeG key l (key p)) ++ p :: l.drop (placeG key l (key p))) = withG key l p := by
  obtain ⟨h1, h2⟩ := place_parts h (key p)
  rcases hit_parts h (key p) with ⟨hlt, e1, e2, e3⟩ | ⟨e1, e2, e3⟩
  · rw [if_pos e1, List.set_eq_take_append_cons_drop, if_pos hlt, h1, e3]
    rfl
  · rw [if_neg (by rw [e1]; simp), h1, e3]
    rfl
theorem del_filter {l : List α} (h : RiseW key l) (n : Int) : (if hitG key l n = true then l.take (placeG key l n) ++ l.drop (placeG key l n + 1) else l) = l.filter (fun x => decide (key x ≠ n)) := by
  obtain ⟨h1, h2⟩ := place_parts h n
  rcases hit_parts h n with ⟨hlt, e1, e2, e3⟩ | ⟨e1, e2, e3⟩
  · rw [if_pos e1]
    conv => rhs; rw [← List.take_append_drop (placeG key l n) l, List.filter_append]
    congr 1
    · exact (List.filter_eq_self.2 fun x hx => by rw [h1, List.mem_filter] at hx; have := hx.2; simp at this ⊢; omega).symm
    · rw [List.drop_eq_getElem_cons hlt, List.filter_cons_of_neg (by simpa using e2)]
      exact (List.filter_eq_self.2 fun x hx => by rw [e3, List.mem_filter] at hx; have := hx.2; simp at this ⊢; omega).symm
  · rw [if_neg (by rw [e1]; simp)]
    exact (List.filter_eq_self.2 fun x hx => by simpa using e2 x hx).symm
theorem withG_rise {l : List α} (h : RiseW key l) (p : α) : RiseW key (withG key l p) := by
  unfold withG RiseW
  rw [List.pairwise_append, List.pairwise_cons]
  refine ⟨h.sublist List.filter_sublist, ⟨fun x hx => ?_, h.sublist List.filter_sublist⟩, fun x hx y hy => ?_⟩
  · simpa using (List.mem_filter.1 hx).2
  · have hx2 := (List.mem_filter.1 hx).2
    simp at hx2
    rcases List.mem_cons.1 hy with rfl | hy
    · exact hx2
    · have hy2 := (List.mem_filter.1 hy).2
      simp at hy2
      omega
theorem withG_mem {l : List α} {p x : α} (h : x ∈ withG key l p) : x = p ∨ x ∈ l := by
  unfold withG at h
  rcases List.mem_append.1 h with h | h
  · exact .inr (List.mem_filter.1 h).1
  · rcases List.mem_cons.1 h with h | h
    · exact .inl h
    · exact .inr (List.mem_filter.1 h).1
theorem withG_len {l : List α} (h : RiseW key l) (p : α) : (withG key l p).length = if hitG key l (key p) = true then l.length else l.length + 1 := by
  rw [← ins_with h p]
  split
  · rw [List.length_set]
  · rw [List.length_append, List.length_cons, List.length_take, List.length_drop]
    have := placeG_le key l (key p)
    omega
theorem withG_twice {l : List α} {p q : α} (hk : key p = key q) : withG key (withG key l p) q = withG key l q := by
  unfold withG
  have e1 : ¬ key p < key q := by omega
  have e2 : ¬ key q < key p := by omega
  rw [List.filter_append, List.filter_cons_of_neg (by simpa using e1), List.filter_append, List.filter_cons_of_neg (by simpa using e2)]
  simp only [List.filter_filter, hk]
  have a1 : (l.filter fun a => decide (key a < key q) && decide (key q < key a)) = [] := List.filter_eq_nil_iff.2 fun x _ => by simp; omega
  have a2 : (l.filter fun a => decide (key q < key a) && decide (key a < key q)) = [] := List.filter_eq_nil_iff.2 fun x _ => by simp; omega
  simp only [a1, a2, Bool.and_self, List.append_nil, List.nil_append]
end
end Go.Proofs.YtgflmkhfachlcaaGreatDoor
/-
  kvone (layer 23): a command done on pairs.
-/
set_option linter.unusedSimpArgs false
set_option linter.unusedVariables false
namespace Go.Proofs.YtgflmkhfachlcaaGreatDoor
open Go.Vx Go.ChangeShapes Go.WideShapes Go.ChangeAt Go.RowKit
def ans0 (c : Cm) : An := ⟨c.client, c.seq, 0, false, ByteArray.empty, 0⟩
def roomB (l : List Pr) (n : Int) : Bool := hitG ksP l n || decide (l.length < 64)
def doOne (l : List Pr) (c : Cm) : List Pr × An :=
  if c.kind = 2 then (if roomB l (kn c.key) = true then (withG ksP l ⟨c.key, c.val, 0⟩, { ans0 c with found := hitG ksP l (kn c.key), val := (findP l (kn c.key)).val }) else (l, { ans0 c with err := 11 }))
  else if c.kind = 3 then (l, { ans0 c with found := hitG ksP l (kn c.key), val := (findP l (kn c.key)).val })
  else if c.kind = 4 then (l.filter (fun x => decide (ksP x ≠ kn c.key)), { ans0 c with found := hitG ksP l (kn c.key), val := (findP l (kn c.key)).val })
  else (l, { ans0 c with err := 8 })
theorem putP_eq {l : List Pr} (h : RiseW ksP l) (p : Pr) : putP l p = if roomB l (kn p.key) = true then (withG ksP l p, true) else (l, false) := by
  have hw := ins_with h p
  unfold putP roomB
  cases hh : hitG ksP l (kn p.key) with
  | true =>
    rw [hh, if_pos rfl] at hw
    rw [if_pos rfl, if_pos (by simp)]
    exact congrArg (·, true) hw
  | false =>
    rw [hh, if_neg (by simp)] at hw
    rw [if_neg (by simp)]
    by_cases h64 : 64 ≤ l.length
    · rw [if_pos h64, if_neg (by simp; omega)]
    · rw [if_neg h64, if_pos (by simp; omega)]
      exact congrArg (·, true) hw
theorem doOne_s {G : GH} {l : List Pr} {sv : Value} (c : Cm) (hs : Prs G sv l) (hr : RiseW ksP l) (hz : Sized l) (hk : c.key.size ≤ 200) (hn : l.length ≤ 150) :
    Con Tryz.prog 75 #[sv, .agg c.cells.toArray] G [] (fun r G' μ' => G' = G ∧ ∃ v, r = .tuple [v, .agg (doOne l c).2.cells.toArray].toArray ∧ GrP v (doOne l c).1 μ') := by
  have hrg := riseG_pw.2 hr
  have q1 := prClone_s hs (by omega)
  have q2 := find_s c.key hs hrg hz hk
  have q3 := fun (v : Value) (ν : OH) (hg : GrP v l ν) => put_s (G := G) ⟨c.key, c.val, 0⟩ hg hrg hz hk (by omega)
  have q4 := fun (v : Value) (ν : OH) (hg : GrP v l ν) => del_s (G := G) c.key hg hrg hz hk (by omega)
  have ed := del_filter hr (kn c.key)
  have ep := putP_eq hr ⟨c.key, c.val, 0⟩
  unfold doOne
  unfold delP at q4
  rw [ed] at q4
  rw [ep] at q3
  simp only at q3
  generalize hitG ksP l (kn c.key) = hb at *
  generalize hfe : findP l (kn c.key) = f at *
  generalize roomB l (kn c.key) = rb at *
  generalize l.filter (fun x => decide (ksP x ≠ kn c.key)) = ld at *
  generalize withG ksP l ⟨c.key, c.val, 0⟩ = lw at *
  obtain ⟨kind, client, seq, key, val, old, node⟩ := c
  simp only at *
  clear ed ep hfe
  (refine v_enter Tryz.func75 rfl Tryz.ntmps75 rfl ?_; intro B _)
  repeat' (first | (apply v_box (zs := Cm.cells ⟨kind, client, seq, key, val, old, node⟩); (case hx => rfl); (case hz => rfl); (case hd => rfl); intro bc) | (apply v_alloc (e := 42); (case hz => rfl); (case hd => rfl); intro b5) | apply v_seq | apply v_region | apply v_nil | (apply v_pure; (case hop => first | (apply p_move <;> rfl) | (apply p_assign <;> rfl) | fail); (case hd => rfl)) | fail)
  refine v_call (μ1 := []) (μ2 := _) rfl q1 (List.Perm.refl _) rfl ?_
  rintro v1 G1 ν1 - ⟨hG1, hg1⟩
  subst hG1
  have q3 := q3 v1 ν1 hg1
  have q4 := q4 v1 ν1 hg1
  repeat' (first | (apply v_alloc (e := 42); (case hz => rfl); (case hd => rfl); intro b7) | (apply v_alloc (e := 65); (case hz => rfl); (case hd => rfl); intro b8) | apply v_seq | apply v_region | apply v_nil | apply v_skip | apply v_block | apply v_blk | (apply v_pure; (case hop => first | (apply p_move <;> rfl) | (apply p_eq <;> rfl) | (apply p_assign <;> rfl) | (apply p_fieldAddrB <;> rfl) | (apply p_extract0 <;> rfl) | (apply p_extract1 <;> rfl) | (apply p_build; (case hz => rfl); (case hv => (simp only [List.map_cons, List.map_nil]; repeat (first | with_reducible exact evs_nil | (apply evs_cons; (case h1 => rfl))))); (case hb => (apply bldL; repeat (first | exact bld_nil | (apply bld_cons; (case hpf => rfl); (case hc => rfl); (case hs => rfl); (case hl => rfl); (case ho => (first | ((repeat (first | with_reducible exact ov_nil | apply ov_cons | fail)); done) | fail))))))) | fail); (case hd => rfl)) | (apply v_cond; (case hc => rfl); all_goals (intro h; (try simp only [reduceCtorEq, dec_true, dec_false, decide_eq_true_eq, decide_eq_false_iff_not, Bool.not_eq_true', Bool.not_eq_false', Option.isNone_iff_eq_none, beq_true, beq_false, beq_iff_eq, beq_eq_false_iff_ne, ne_eq, decide_eq_decide, Bool.not_eq_true, Bool.not_eq_false, Decidable.not_not] at h); first | skip)) | (apply v_callJ (hs := q2); (case ha => rfl); (case hd => rfl)) | (apply v_read; (case hop => first | (apply r_load1; rfl; (apply Cell.own; (case h => (repeat (first | exact List.Mem.head _ | apply List.Mem.tail | apply List.mem_append_right))); rfl)) | fail); (case hd => rfl)) | (apply v_store; (case hp => rfl); (case hx => rfl); (case hc => rfl); (case hsz => rfl); (case h1 => rfl); (case hb => (repeat (first | exact List.Mem.head _ | apply List.Mem.tail | fail))); (case hfit => first | exact Nat.le_of_ble_eq_true rfl | fail); (case hov => (first | ((repeat (first | with_reducible exact ov_nil | apply ov_cons | fail)); done) | fail)); (case hu => repeat (first | exact Upd.here _ _ | apply Upd.there | fail))) | fail)
  · have hk2 : kind = 2 := by assumption
    rw [if_pos hk2]
    refine v_call (μ1 := ν1) (μ2 := (b8, .cells [.string f.key, .string f.val, .int .i64 f.rev].toArray 65 (0, 0)) :: (b7, .cells [.int .i64 client, .int .i64 seq, .int .i64 0, .bool false, .string ByteArray.empty, .int .i64 0].toArray 42 (0, 0)) :: [(b5, .cells [.int .i64 0, .int .i64 0, .int .i64 0, .bool false, .string ByteArray.empty, .int .i64 0].toArray 42 (0, 0)), (bc, .cells (Cm.cells ⟨kind, client, seq, key, val, old, node⟩).toArray 38 (0, 0))]) rfl q3 (by apply perm_of_count; intro p; simp only [List.append_eq, List.countP_append, List.countP_cons, List.countP_nil, Nat.zero_add, Nat.add_zero]; try ac_rfl) rfl ?_
    rintro _ G2 ν2 - ⟨hG2, v2, rfl, hg2, hv2⟩
    subst hG2
    cases rb with
    | true =>
      rw [if_pos rfl] at hg2 ⊢
      simp only [if_true]
      repeat' (first | apply v_seq | apply v_region | apply v_nil | apply v_skip | apply v_blk | (apply v_pure; (case hop => first | (apply p_move <;> rfl) | (apply p_assign <;> rfl) | (apply p_not <;> rfl) | (apply p_extract0 <;> rfl) | (apply p_extract1 <;> rfl) | fail); (case hd => rfl)) | (apply v_condF; (case hc => rfl)) | fail)
      refine d_start [(b8, .cells [.string f.key, .string f.val, .int .i64 f.rev].toArray 65 (0, 0))] (by kernel_rfl) (by kernel_rfl) (by kernel_rfl) (by intro e he; first | (simp at he; simp [he]; done) | fail) ?_
      all_goals (first | (apply d_take 0; (case hi => rfl); (case hop => first | (apply PureOp.read; apply p_move <;> rfl)); (case hf => kernel_rfl); (case hr => kernel_rfl); (case hd => rfl)) | fail)
      all_goals (first | (apply d_take 1; (case hi => rfl); (case hop => first | (apply PureOp.read; apply p_fieldAddrB <;> rfl) | fail); (case hf => kernel_rfl); (case hr => kernel_rfl); (case hd => rfl)) | fail)
      all_goals (first | (apply d_take 2; (case hi => rfl); (case hop => first   | (apply r_loadNo; (case hx => rfl); (case h => (repeat (fail))); (case hd => (repeat (fail))); (case hn => rfl)) | (apply r_load1; rfl; (apply Cell.own; (case h => (repeat (first | exact List.Mem.head _ | fail))); rfl)) | (apply r_loadN; rfl; (apply CellsAt.own; (case h => (repeat (fail)))); rfl)); (case hf => kernel_rfl); (case hr => kernel_rfl); (case hd => rfl)) | fail)
      all_goals (first | (apply d_take 3; (case hi => rfl); (case hop => first | (apply PureOp.read; apply p_fieldAddrB <;> rfl) | fail); (case hf => kernel_rfl); (case hr => kernel_rfl); (case hd => rfl)) | fail)
      all_goals (first | (apply d_store 4; (case hi => rfl); (case hr => kernel_rfl); (case hL => infer_instance); (case hp => rfl); (case hx => rfl); (case hc => rfl); (case hsz => rfl); (case h1 => rfl); (case hb => (repeat (first | exact List.Mem.head _ | apply List.Mem.tail | apply List.mem_append_right))); (case hfit => first | exact Nat.le_of_ble_eq_true rfl | fail); (case hov => (first | ((repeat (first | with_reducible exact ov_nil | apply ov_cons | fail)); done) | fail)); (case hu => repeat (first | exact Upd.here _ _ | apply Upd.there | apply Upd.app)); (case hν' => intro e he; first | (simp at he; simp [he]; done) | fail)) | fail)
      all_goals (first | (apply d_take 5; (case hi => rfl); (case hop => first | (apply PureOp.read; apply p_fieldAddrB <;> rfl) | fail); (case hf => kernel_rfl); (case hr => kernel_rfl); (case hd => rfl)) | fail)
      all_goals (first | (apply d_store 6; (case hi => rfl); (case hr => kernel_rfl); (case hL => infer_instance); (case hp => rfl); (case hx => rfl); (case hc => rfl); (case hsz => rfl); (case h1 => rfl); (case hb => (repeat (first | exact List.Mem.head _ | apply List.Mem.tail | apply List.mem_append_right))); (case hfit => first | exact Nat.le_of_ble_eq_true rfl | fail); (case hov => (first | ((repeat (first | with_reducible exact ov_nil | apply ov_cons | fail)); done) | fail)); (case hu => repeat (first | exact Upd.here _ _ | apply Upd.there | apply Upd.app)); (case hν' => intro e he; first | (simp at he; simp [he]; done) | fail)) | fail)
      all_goals (apply d_done; (case hr => kernel_rfl))
      repeat' (first | apply v_seq | fail)
      refine d_start [(b7, .cells [.int .i64 client, .int .i64 seq, .int .i64 0, .bool hb, .string f.val, .int .i64 0].toArray 42 (0, 0))] (by kernel_rfl) (by kernel_rfl) (by kernel_rfl) (by intro e he; first | (simp at he; simp [he]; done) | fail) ?_
      all_goals (first | (apply d_take 0; (case hi => rfl); (case hop => first | (apply PureOp.read; apply p_move <;> rfl)); (case hf => kernel_rfl); (case hr => kernel_rfl); (case hd => rfl)) | fail)
      all_goals (first | (apply d_take 1; (case hi => rfl); (case hop => first   | (apply r_loadNo; (case hx => rfl); (case h => (repeat (first | exact List.Mem.head _ | fail))); (case hd => (repeat (first | with_reducible exact dt_nil | apply dt_here | fail))); (case hn => rfl)) | (apply r_load1; rfl; (apply Cell.own; (case h => (repeat (fail))); rfl)) | (apply r_loadN; rfl; (apply CellsAt.own; (case h => (repeat (fail)))); rfl)); (case hf => kernel_rfl); (case hr => kernel_rfl); (case hd => rfl)) | fail)
      all_goals (first | (apply d_take 2; (case hi => rfl); (case hop => first | (apply PureOp.read; apply p_assign <;> rfl)); (case hf => kernel_rfl); (case hr => kernel_rfl); (case hd => rfl)) | fail)
      all_goals (first | (apply d_store 3; (case hi => rfl); (case hr => kernel_rfl); (case hL => infer_instance); (case hp => rfl); (case hx => rfl); (case hc => rfl); (case hsz => rfl); (case h1 => rfl); (case hb => (repeat (first | exact List.Mem.head _ | apply List.Mem.tail | apply List.mem_append_right))); (case hfit => first | exact Nat.le_of_ble_eq_true rfl | fail); (case hov => (first | ((repeat (first | with_reducible exact ov_nil | apply ov_cons | fail)); done) | fail)); (case hu => repeat (first | exact Upd.here _ _ | apply Upd.there | apply Upd.app)); (case hν' => intro e he; first | (simp at he; simp [he]; done) | fail)) | fail)
      all_goals (apply d_done; (case hr => kernel_rfl))
      repeat' (fail)
      refine v_retM ν2 (outsM_tc (sz1 := 6) (vs1 := [.int .i64 client, .int .i64 seq, .int .i64 0, .bool hb, .string f.val, .int .i64 0]) (e1 := 42) rfl rfl rfl (by repeat (first | exact List.Mem.head _ | apply List.Mem.tail | apply List.mem_append_right)) rfl) (List.sublist_append_left _ _) ⟨rfl, _, rfl, hg2⟩
    | false =>
      rw [if_neg (by simp)] at hg2 hv2 ⊢
      obtain rfl := hv2 rfl
      simp only [Bool.false_eq_true, if_false]
      repeat' (first | apply v_seq | apply v_region | apply v_nil | (apply v_pure; (case hop => first | (apply p_move <;> rfl) | (apply p_assign <;> rfl) | (apply p_not <;> rfl) | (apply p_fieldAddrB <;> rfl) | (apply p_extract0 <;> rfl) | (apply p_extract1 <;> rfl) | fail); (case hd => rfl)) | (apply v_condT; (case hc => rfl)) | (apply v_store; (case hp => rfl); (case hx => rfl); (case hc => rfl); (case hsz => rfl); (case h1 => rfl); (case hb => (repeat (first | exact List.Mem.head _ | apply List.Mem.tail | apply List.mem_append_right))); (case hfit => first | exact Nat.le_of_ble_eq_true rfl | fail); (case hov => (first | ((repeat (first | with_reducible exact ov_nil | apply ov_cons | fail)); done) | fail)); (case hu => repeat (first | exact Upd.here _ _ | apply Upd.there | apply Upd.app))) | fail)
      refine d_start [(b7, .cells [.int .i64 client, .int .i64 seq, .int .i64 11, .bool false, .string ByteArray.empty, .int .i64 0].toArray 42 (0, 0))] (by kernel_rfl) (by kernel_rfl) (by kernel_rfl) (by intro e he; first | (simp at he; simp [he]; done) | fail) ?_
      all_goals (first | (apply d_take 0; (case hi => rfl); (case hop => first | (apply PureOp.read; apply p_move <;> rfl)); (case hf => kernel_rfl); (case hr => kernel_rfl); (case hd => rfl)) | fail)
      all_goals (first | (apply d_take 1; (case hi => rfl); (case hop => first   | (apply r_loadNo; (case hx => rfl); (case h => (repeat (first | exact List.Mem.head _ | fail))); (case hd => (repeat (first | with_reducible exact dt_nil | apply dt_here | fail))); (case hn => rfl)) | (apply r_load1; rfl; (apply Cell.own; (case h => (repeat (fail))); rfl)) | (apply r_loadN; rfl; (apply CellsAt.own; (case h => (repeat (fail)))); rfl)); (case hf => kernel_rfl); (case hr => kernel_rfl); (case hd => rfl)) | fail)
      all_goals (first | (apply d_take 2; (case hi => rfl); (case hop => first | (apply PureOp.read; apply p_assign <;> rfl)); (case hf => kernel_rfl); (case hr => kernel_rfl); (case hd => rfl)) | fail)
      all_goals (first | (apply d_store 3; (case hi => rfl); (case hr => kernel_rfl); (case hL => infer_instance); (case hp => rfl); (case hx => rfl); (case hc => rfl); (case hsz => rfl); (case h1 => rfl); (case hb => (repeat (first | exact List.Mem.head _ | apply List.Mem.tail | apply List.mem_append_right))); (case hfit => first | exact Nat.le_of_ble_eq_true rfl | fail); (case hov => (first | ((repeat (first | with_reducible exact ov_nil | apply ov_cons | fail)); done) | fail)); (case hu => repeat (first | exact Upd.here _ _ | apply Upd.there | apply Upd.app)); (case hν' => intro e he; first | (simp at he; simp [he]; done) | fail)) | fail)
      all_goals (apply d_done; (case hr => kernel_rfl))
      repeat' (fail)
      refine v_retM ν2 (outsM_tc (sz1 := 6) (vs1 := [.int .i64 client, .int .i64 seq, .int .i64 11, .bool false, .string ByteArray.empty, .int .i64 0]) (e1 := 42) rfl rfl rfl (by repeat (first | exact List.Mem.head _ | apply List.Mem.tail | apply List.mem_append_right)) rfl) (List.sublist_append_left _ _) ⟨rfl, _, rfl, hg2⟩
  · have hk3 : kind = 3 := by assumption
    rw [if_neg (by assumption), if_pos hk3]
    refine d_start [(b8, .cells [.string f.key, .string f.val, .int .i64 f.rev].toArray 65 (0, 0))] (by kernel_rfl) (by kernel_rfl) (by kernel_rfl) (by intro e he; first | (simp at he; simp [he]; done) | fail) ?_
    all_goals (first | (apply d_take 0; (case hi => rfl); (case hop => first | (apply PureOp.read; apply p_move <;> rfl)); (case hf => kernel_rfl); (case hr => kernel_rfl); (case hd => rfl)) | fail)
    all_goals (first | (apply d_take 1; (case hi => rfl); (case hop => first | (apply PureOp.read; apply p_fieldAddrB <;> rfl) | fail); (case hf => kernel_rfl); (case hr => kernel_rfl); (case hd => rfl)) | fail)
    all_goals (first | (apply d_take 2; (case hi => rfl); (case hop => first   | (apply r_loadNo; (case hx => rfl); (case h => (repeat (fail))); (case hd => (repeat (fail))); (case hn => rfl)) | (apply r_load1; rfl; (apply Cell.own; (case h => (repeat (first | exact List.Mem.head _ | fail))); rfl)) | (apply r_loadN; rfl; (apply CellsAt.own; (case h => (repeat (fail)))); rfl)); (case hf => kernel_rfl); (case hr => kernel_rfl); (case hd => rfl)) | fail)
    all_goals (first | (apply d_take 3; (case hi => rfl); (case hop => first | (apply PureOp.read; apply p_fieldAddrB <;> rfl) | fail); (case hf => kernel_rfl); (case hr => kernel_rfl); (case hd => rfl)) | fail)
    all_goals (first | (apply d_store 4; (case hi => rfl); (case hr => kernel_rfl); (case hL => infer_instance); (case hp => rfl); (case hx => rfl); (case hc => rfl); (case hsz => rfl); (case h1 => rfl); (case hb => (repeat (first | exact List.Mem.head _ | apply List.Mem.tail | fail))); (case hfit => first | exact Nat.le_of_ble_eq_true rfl | fail); (case hov => (first | ((repeat (first | with_reducible exact ov_nil | apply ov_cons | fail)); done) | fail)); (case hu => repeat (first | exact Upd.here _ _ | apply Upd.there | fail)); (case hν' => intro e he; first | (simp at he; simp [he]; done) | fail)) | fail)
    all_goals (first | (apply d_take 5; (case hi => rfl); (case hop => first | (apply PureOp.read; apply p_fieldAddrB <;> rfl) | fail); (case hf => kernel_rfl); (case hr => kernel_rfl); (case hd => rfl)) | fail)
    all_goals (first | (apply d_store 6; (case hi => rfl); (case hr => kernel_rfl); (case hL => infer_instance); (case hp => rfl); (case hx => rfl); (case hc => rfl); (case hsz => rfl); (case h1 => rfl); (case hb => (repeat (first | exact List.Mem.head _ | apply List.Mem.tail | fail))); (case hfit => first | exact Nat.le_of_ble_eq_true rfl | fail); (case hov => (first | ((repeat (first | with_reducible exact ov_nil | apply ov_cons | fail)); done) | fail)); (case hu => repeat (first | exact Upd.here _ _ | apply Upd.there | fail)); (case hν' => intro e he; first | (simp at he; simp [he]; done) | fail)) | fail)
    all_goals (apply d_done; (case hr => kernel_rfl))
    repeat' (first | apply v_seq | fail)
    refine d_start [(b7, .cells [.int .i64 client, .int .i64 seq, .int .i64 0, .bool hb, .string f.val, .int .i64 0].toArray 42 (0, 0))] (by kernel_rfl) (by kernel_rfl) (by kernel_rfl) (by intro e he; first | (simp at he; simp [he]; done) | fail) ?_
    all_goals (first | (apply d_take 0; (case hi => rfl); (case hop => first | (apply PureOp.read; apply p_move <;> rfl)); (case hf => kernel_rfl); (case hr => kernel_rfl); (case hd => rfl)) | fail)
    all_goals (first | (apply d_take 1; (case hi => rfl); (case hop => first   | (apply r_loadNo; (case hx => rfl); (case h => (repeat (first | exact List.Mem.head _ | fail))); (case hd => (repeat (first | with_reducible exact dt_nil | apply dt_here | fail))); (case hn => rfl)) | (apply r_load1; rfl; (apply Cell.own; (case h => (repeat (fail))); rfl)) | (apply r_loadN; rfl; (apply CellsAt.own; (case h => (repeat (fail)))); rfl)); (case hf => kernel_rfl); (case hr => kernel_rfl); (case hd => rfl)) | fail)
    all_goals (first | (apply d_take 2; (case hi => rfl); (case hop => first | (apply PureOp.read; apply p_assign <;> rfl)); (case hf => kernel_rfl); (case hr => kernel_rfl); (case hd => rfl)) | fail)
    all_goals (first | (apply d_store 3; (case hi => rfl); (case hr => kernel_rfl); (case hL => infer_instance); (case hp => rfl); (case hx => rfl); (case hc => rfl); (case hsz => rfl); (case h1 => rfl); (case hb => (repeat (first | exact List.Mem.head _ | apply List.Mem.tail | apply List.mem_append_right))); (case hfit => first | exact Nat.le_of_ble_eq_true rfl | fail); (case hov => (first | ((repeat (first | with_reducible exact ov_nil | apply ov_cons | fail)); done) | fail)); (case hu => repeat (first | exact Upd.here _ _ | apply Upd.there | apply Upd.app)); (case hν' => intro e he; first | (simp at he; simp [he]; done) | fail)) | fail)
    all_goals (apply d_done; (case hr => kernel_rfl))
    repeat' (fail)
    refine v_retM ν1 (outsM_tc (sz1 := 6) (vs1 := [.int .i64 client, .int .i64 seq, .int .i64 0, .bool hb, .string f.val, .int .i64 0]) (e1 := 42) rfl rfl rfl (by repeat (first | exact List.Mem.head _ | apply List.Mem.tail | apply List.mem_append_right)) rfl) (List.Sublist.cons _ (List.Sublist.cons _ (List.sublist_append_left _ _))) ⟨rfl, _, rfl, hg1⟩
  · have hk4 : kind = 4 := by assumption
    rw [if_neg (by assumption), if_neg (by assumption), if_pos hk4]
    refine v_call (μ1 := ν1) (μ2 := (b8, .cells [.string f.key, .string f.val, .int .i64 f.rev].toArray 65 (0, 0)) :: (b7, .cells [.int .i64 client, .int .i64 seq, .int .i64 0, .bool false, .string ByteArray.empty, .int .i64 0].toArray 42 (0, 0)) :: [(b5, .cells [.int .i64 0, .int .i64 0, .int .i64 0, .bool false, .string ByteArray.empty, .int .i64 0].toArray 42 (0, 0)), (bc, .cells (Cm.cells ⟨kind, client, seq, key, val, old, node⟩).toArray 38 (0, 0))]) rfl q4 (by apply perm_of_count; intro p; simp only [List.append_eq, List.countP_append, List.countP_cons, List.countP_nil, Nat.zero_add, Nat.add_zero]; try ac_rfl) rfl ?_
    rintro v2 G2 ν2 - ⟨hG2, hg2⟩
    subst hG2
    repeat' (first | apply v_seq | apply v_nil | apply v_blk | (apply v_pure; (case hop => first | (apply p_assign <;> rfl) | fail); (case hd => rfl)) | fail)
    refine d_start [(b8, .cells [.string f.key, .string f.val, .int .i64 f.rev].toArray 65 (0, 0))] (by kernel_rfl) (by kernel_rfl) (by kernel_rfl) (by intro e he; first | (simp at he; simp [he]; done) | fail) ?_
    all_goals (first | (apply d_take 0; (case hi => rfl); (case hop => first | (apply PureOp.read; apply p_move <;> rfl)); (case hf => kernel_rfl); (case hr => kernel_rfl); (case hd => rfl)) | fail)
    all_goals (first | (apply d_take 1; (case hi => rfl); (case hop => first | (apply PureOp.read; apply p_fieldAddrB <;> rfl) | fail); (case hf => kernel_rfl); (case hr => kernel_rfl); (case hd => rfl)) | fail)
    all_goals (first | (apply d_take 2; (case hi => rfl); (case hop => first   | (apply r_loadNo; (case hx => rfl); (case h => (repeat (fail))); (case hd => (repeat (fail))); (case hn => rfl)) | (apply r_load1; rfl; (apply Cell.own; (case h => (repeat (first | exact List.Mem.head _ | fail))); rfl)) | (apply r_loadN; rfl; (apply CellsAt.own; (case h => (repeat (fail)))); rfl)); (case hf => kernel_rfl); (case hr => kernel_rfl); (case hd => rfl)) | fail)
    all_goals (first | (apply d_take 3; (case hi => rfl); (case hop => first | (apply PureOp.read; apply p_fieldAddrB <;> rfl) | fail); (case hf => kernel_rfl); (case hr => kernel_rfl); (case hd => rfl)) | fail)
    all_goals (first | (apply d_store 4; (case hi => rfl); (case hr => kernel_rfl); (case hL => infer_instance); (case hp => rfl); (case hx => rfl); (case hc => rfl); (case hsz => rfl); (case h1 => rfl); (case hb => (repeat (first | exact List.Mem.head _ | apply List.Mem.tail | apply List.mem_append_right))); (case hfit => first | exact Nat.le_of_ble_eq_true rfl | fail); (case hov => (first | ((repeat (first | with_reducible exact ov_nil | apply ov_cons | fail)); done) | fail)); (case hu => repeat (first | exact Upd.here _ _ | apply Upd.there | apply Upd.app)); (case hν' => intro e he; first | (simp at he; simp [he]; done) | fail)) | fail)
    all_goals (first | (apply d_take 5; (case hi => rfl); (case hop => first | (apply PureOp.read; apply p_fieldAddrB <;> rfl) | fail); (case hf => kernel_rfl); (case hr => kernel_rfl); (case hd => rfl)) | fail)
    all_goals (first | (apply d_store 6; (case hi => rfl); (case hr => kernel_rfl); (case hL => infer_instance); (case hp => rfl); (case hx => rfl); (case hc => rfl); (case hsz => rfl); (case h1 => rfl); (case hb => (repeat (first | exact List.Mem.head _ | apply List.Mem.tail | apply List.mem_append_right))); (case hfit => first | exact Nat.le_of_ble_eq_true rfl | fail); (case hov => (first | ((repeat (first | with_reducible exact ov_nil | apply ov_cons | fail)); done) | fail)); (case hu => repeat (first | exact Upd.here _ _ | apply Upd.there | apply Upd.app)); (case hν' => intro e he; first | (simp at he; simp [he]; done) | fail)) | fail)
    all_goals (apply d_done; (case hr => kernel_rfl))
    repeat' (first | apply v_seq | fail)
    refine d_start [(b7, .cells [.int .i64 client, .int .i64 seq, .int .i64 0, .bool hb, .string f.val, .int .i64 0].toArray 42 (0, 0))] (by kernel_rfl) (by kernel_rfl) (by kernel_rfl) (by intro e he; first | (simp at he; simp [he]; done) | fail) ?_
    all_goals (first | (apply d_take 0; (case hi => rfl); (case hop => first | (apply PureOp.read; apply p_move <;> rfl)); (case hf => kernel_rfl); (case hr => kernel_rfl); (case hd => rfl)) | fail)
    all_goals (first | (apply d_take 1; (case hi => rfl); (case hop => first   | (apply r_loadNo; (case hx => rfl); (case h => (repeat (first | exact List.Mem.head _ | fail))); (case hd => (repeat (first | with_reducible exact dt_nil | apply dt_here | fail))); (case hn => rfl)) | (apply r_load1; rfl; (apply Cell.own; (case h => (repeat (fail))); rfl)) | (apply r_loadN; rfl; (apply CellsAt.own; (case h => (repeat (fail)))); rfl)); (case hf => kernel_rfl); (case hr => kernel_rfl); (case hd => rfl)) | fail)
    all_goals (first | (apply d_take 2; (case hi => rfl); (case hop => first | (apply PureOp.read; apply p_assign <;> rfl)); (case hf => kernel_rfl); (case hr => kernel_rfl); (case hd => rfl)) | fail)
    all_goals (first | (apply d_store 3; (case hi => rfl); (case hr => kernel_rfl); (case hL => infer_instance); (case hp => rfl); (case hx => rfl); (case hc => rfl); (case hsz => rfl); (case h1 => rfl); (case hb => (repeat (first | exact List.Mem.head _ | apply List.Mem.tail | apply List.mem_append_right))); (case hfit => first | exact Nat.le_of_ble_eq_true rfl | fail); (case hov => (first | ((repeat (first | with_reducible exact ov_nil | apply ov_cons | fail)); done) | fail)); (case hu => repeat (first | exact Upd.here _ _ | apply Upd.there | apply Upd.app)); (case hν' => intro e he; first | (simp at he; simp [he]; done) | fail)) | fail)
    all_goals (apply d_done; (case hr => kernel_rfl))
    repeat' (fail)
    refine v_retM ν2 (outsM_tc (sz1 := 6) (vs1 := [.int .i64 client, .int .i64 seq, .int .i64 0, .bool hb, .string f.val, .int .i64 0]) (e1 := 42) rfl rfl rfl (by repeat (first | exact List.Mem.head _ | apply List.Mem.tail | apply List.mem_append_right)) rfl) (List.sublist_append_left _ _) ⟨rfl, _, rfl, hg2⟩
  · rw [if_neg (by assumption), if_neg (by assumption), if_neg (by assumption)]
    refine d_start [(b7, .cells [.int .i64 client, .int .i64 seq, .int .i64 8, .bool false, .string ByteArray.empty, .int .i64 0].toArray 42 (0, 0))] (by kernel_rfl) (by kernel_rfl) (by kernel_rfl) (by intro e he; first | (simp at he; simp [he]; done) | fail) ?_
    all_goals (first | (apply d_take 0; (case hi => rfl); (case hop => first | (apply PureOp.read; apply p_move <;> rfl)); (case hf => kernel_rfl); (case hr => kernel_rfl); (case hd => rfl)) | fail)
    all_goals (first | (apply d_take 1; (case hi => rfl); (case hop => first   | (apply r_loadNo; (case hx => rfl); (case h => (repeat (first | exact List.Mem.head _ | fail))); (case hd => (repeat (first | with_reducible exact dt_nil | apply dt_here | fail))); (case hn => rfl)) | (apply r_load1; rfl; (apply Cell.own; (case h => (repeat (fail))); rfl)) | (apply r_loadN; rfl; (apply CellsAt.own; (case h => (repeat (fail)))); rfl)); (case hf => kernel_rfl); (case hr => kernel_rfl); (case hd => rfl)) | fail)
    all_goals (first | (apply d_take 2; (case hi => rfl); (case hop => first | (apply PureOp.read; apply p_assign <;> rfl)); (case hf => kernel_rfl); (case hr => kernel_rfl); (case hd => rfl)) | fail)
    all_goals (first | (apply d_store 3; (case hi => rfl); (case hr => kernel_rfl); (case hL => infer_instance); (case hp => rfl); (case hx => rfl); (case hc => rfl); (case hsz => rfl); (case h1 => rfl); (case hb => (repeat (first | exact List.Mem.head _ | apply List.Mem.tail | apply List.mem_append_right))); (case hfit => first | exact Nat.le_of_ble_eq_true rfl | fail); (case hov => (first | ((repeat (first | with_reducible exact ov_nil | apply ov_cons | fail)); done) | fail)); (case hu => repeat (first | exact Upd.here _ _ | apply Upd.there | apply Upd.app)); (case hν' => intro e he; first | (simp at he; simp [he]; done) | fail)) | fail)
    all_goals (apply d_done; (case hr => kernel_rfl))
    repeat' (fail)
    refine v_retM ν1 (outsM_tc (sz1 := 6) (vs1 := [.int .i64 client, .int .i64 seq, .int .i64 8, .bool false, .string ByteArray.empty, .int .i64 0]) (e1 := 42) rfl rfl rfl (by repeat (first | exact List.Mem.head _ | apply List.Mem.tail | apply List.mem_append_right)) rfl) (List.Sublist.cons _ (List.Sublist.cons _ (List.sublist_append_left _ _))) ⟨rfl, _, rfl, hg1⟩
end Go.Proofs.YtgflmkhfachlcaaGreatDoor
