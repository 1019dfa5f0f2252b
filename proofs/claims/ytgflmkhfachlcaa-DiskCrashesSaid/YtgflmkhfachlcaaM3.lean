/-
  disk (layer 18): the reference: the place of a file, files behind something, files behind some things.
-/
import Derived.Test.YtgflmkhfachlcaaM2
import Derived.Lib.SlBytesConst
import Derived.Laws.BytesArg
set_option linter.unusedSimpArgs false
set_option linter.unusedVariables false
namespace Go.Proofs.Ytgflmkhfachlcaa
open Go.Vx Go.ChangeShapes Go.WideShapes Go.ChangeAt Go.RowKit
def plcN (R : List Fl) (no : Int) : Nat := R.findIdx fun f => decide (f.1 = no)
def plc (R : List Fl) (no : Int) : Int := if plcN R no < R.length then (plcN R no : Nat) else -1
theorem plcN_first {R : List Fl} {no : Int} {k : Nat} (h : k < R.length) (h1 : R[k].1 = no) (h2 : ∀ j (hj : j < k), R[j].1 ≠ no) : plcN R no = k := by
  unfold plcN
  rw [List.findIdx_eq h]
  simp only [decide_eq_true_eq, decide_eq_false_iff_not]
  exact ⟨h1, fun j hj => h2 j hj⟩
theorem plcN_get {R : List Fl} {no : Int} (h : plcN R no < R.length) : R[plcN R no].1 = no := of_decide_eq_true (List.findIdx_getElem (xs := R) (p := fun f : Fl => decide (f.1 = no)) (w := h))
theorem plc_mem {R : List Fl} {no : Int} : 0 ≤ plc R no ↔ no ∈ R.map (·.1) := by
  unfold plc plcN
  by_cases h : (R.findIdx fun f => decide (f.1 = no)) < R.length
  · rw [if_pos h]
    rw [List.findIdx_lt_length] at h
    obtain ⟨f, hf, h2⟩ := h
    simp only [decide_eq_true_eq] at h2
    exact ⟨fun _ => List.mem_map.2 ⟨f, hf, h2⟩, fun _ => by omega⟩
  · rw [if_neg h]
    refine ⟨fun h => by omega, fun hm => absurd ?_ h⟩
    obtain ⟨f, hf, h2⟩ := List.mem_map.1 hm
    exact List.findIdx_lt_length.2 ⟨f, hf, by simpa using h2⟩
theorem plc_at {R : List Fl} (hr : Ris R) {no : Int} {k : Nat} (h : k < R.length) : ((k : Nat) : Int) = plc R no ↔ R[k].1 = no := by
  have hlt : ∀ (i j : Nat) (hj : j < R.length) (hij : i < j), (R[i]'(by omega)).1 < R[j].1 := fun i j hj hij => by
    unfold Ris at hr
    exact List.pairwise_iff_getElem.1 hr i j (by omega) hj hij
  constructor
  · intro e
    unfold plc at e
    split at e
    · rename_i h2
      have e2 : k = plcN R no := by omega
      subst e2
      exact plcN_get h2
    · omega
  · intro e
    have : plcN R no = k := plcN_first h e fun j hj => by
      have := hlt j k h hj
      omega
    unfold plc
    rw [this, if_pos h]
theorem place_s {G : GH} {R : List Fl} {rv : Value} (no : Int) (hs : Fls G rv R) : Con Try.prog 61 #[rv, .int .i64 no] G [] (Just (.int .i64 (plc R no)) G) := by
  obtain ⟨A, c, dA, dc, rfl, hlc, hcm, hsome, hcl, -⟩ := flOpen hs
  simp only [maxLen] at hcm
  (refine v_enter Try.func61 rfl Try.ntmps61 rfl ?_; intro B _)
  repeat' (first | apply v_seq | apply v_region | apply v_nil | apply v_block | (apply v_pure; (case hop => first | (apply p_assign <;> rfl) | fail); (case hd => rfl)) | fail)
  refine v_loop [5, 0, 1] (fun us G' μ' => G' = G ∧ μ' = [] ∧ ∃ k : Nat, k ≤ R.length ∧ us = [Value.int .i64 (k : Nat), .slice A R.length c, .int .i64 no] ∧ ∀ j (h : j < R.length), j < k → R[j].1 ≠ no) (fun us => R.length - (headI us).toNat) rfl ⟨rfl, rfl, 0, by omega, rfl, by omega⟩ ?_
  rintro us G' _ ⟨rfl, rfl, k, hk, rfl, hno⟩
  by_cases hlt : k < R.length
  · have e1 : ((k : Nat) : Int).toNat = k := by omega
    have hc0 := (hcl k hlt).cell (j := 0) rfl
    have hA := hsome (by omega)
    by_cases hf : R[k].1 = no
    · have hp : plc R no = ((k : Nat) : Int) := by
        unfold plc
        rw [plcN_first hlt hf fun j hj => hno j (by omega) hj, if_pos hlt]
      rw [hp]
      generalize R[k].1 = f at *
      repeat' (first | apply v_seq | apply v_region | apply v_nil | apply v_skip | apply v_block | (apply v_pure; (case hop => first | (apply p_move <;> rfl) | (apply p_eq <;> rfl) | (apply p_lt <;> rfl) | (apply p_assign <;> rfl) | (apply p_lenSlice <;> rfl) | (apply p_fieldAddr <;> rfl) | (apply p_indexAddrS; (case hx => rfl); (case hi => rfl); (case h0 => omega); (case h => omega); (case hA => first | assumption | fail)) | fail); (case hd => rfl)) | (apply v_cond; (case hc => rfl); all_goals (intro h; (try simp only [reduceCtorEq, dec_true, dec_false, decide_eq_true_eq, decide_eq_false_iff_not, Bool.not_eq_true', Bool.not_eq_false', Option.isNone_iff_eq_none, beq_true, beq_false, beq_iff_eq, beq_eq_false_iff_ne, ne_eq, decide_eq_decide, Bool.not_eq_true, Bool.not_eq_false, Decidable.not_not] at h); first | (exfalso; omega) | skip)) | (apply v_read; (case hop => (apply r_load1; rfl; exact Cell.frozen hc0)); (case hd => rfl)) | fail)
      refine v_ret [] (outsA1 rfl rfl) (by repeat (first | exact List.Sublist.refl _ | fail)) ?_
      exact ⟨rfl, rfl, rfl⟩
    · have hno2 : ∀ j (h : j < R.length), j < k + 1 → R[j].1 ≠ no := fun j h hj => by
        by_cases e : j = k
        · subst e; exact hf
        · exact hno j h (by omega)
      generalize R[k].1 = f at *
      repeat' (first | apply v_seq | apply v_region | apply v_nil | apply v_skip | apply v_block | apply v_blk | (apply v_pure; (case hop => first | (apply p_move <;> rfl) | (apply p_eq <;> rfl) | (apply p_lt <;> rfl) | (apply p_assign <;> rfl) | (apply p_lenSlice <;> rfl) | (apply p_fieldAddr <;> rfl) | (apply p_add; (case hx => rfl); (case hy => rfl); (case h => omega)) | (apply p_indexAddrS; (case hx => rfl); (case hi => rfl); (case h0 => omega); (case h => omega); (case hA => first | assumption | fail)) | fail); (case hd => rfl)) | (apply v_cond; (case hc => rfl); all_goals (intro h; (try simp only [reduceCtorEq, dec_true, dec_false, decide_eq_true_eq, decide_eq_false_iff_not, Bool.not_eq_true', Bool.not_eq_false', Option.isNone_iff_eq_none, beq_true, beq_false, beq_iff_eq, beq_eq_false_iff_ne, ne_eq, decide_eq_decide, Bool.not_eq_true, Bool.not_eq_false, Decidable.not_not] at h); first | (exfalso; omega) | skip)) | (apply v_read; (case hop => (apply r_load1; rfl; exact Cell.frozen hc0)); (case hd => rfl)) | fail)
      exact v_again rfl ⟨rfl, rfl, k + 1, by omega, rfl, hno2⟩ (by simp [headI]; omega)
  · have hp : plc R no = -1 := by
      unfold plc
      rw [if_neg]
      intro h
      exact hno _ h (by omega) (plcN_get h)
    rw [hp]
    repeat' (first | apply v_seq | apply v_region | apply v_nil | (apply v_exit; (case hp => rfl)) | (apply v_pure; (case hop => first | (apply p_move <;> rfl) | (apply p_lt <;> rfl) | (apply p_assign <;> rfl) | (apply p_lenSlice <;> rfl) | fail); (case hd => rfl)) | (apply v_cond; (case hc => rfl); all_goals (intro h; (try simp only [reduceCtorEq, dec_true, dec_false, decide_eq_true_eq, decide_eq_false_iff_not, Bool.not_eq_true', Bool.not_eq_false', Option.isNone_iff_eq_none, beq_true, beq_false, beq_iff_eq, beq_eq_false_iff_ne, ne_eq, decide_eq_decide, Bool.not_eq_true, Bool.not_eq_false, Decidable.not_not] at h); first | (exfalso; omega) | skip)) | fail)
    refine v_ret [] (outsA1 rfl rfl) (by repeat (first | exact List.Sublist.refl _ | fail)) ?_
    exact ⟨rfl, rfl, rfl⟩
theorem snocH {α : Type} {sz : Nat} {R : α → List Value → Prop} {l : List α} {x : α} {rx : List Value} {css : List (List Value)} (h1 : css.length = l.length) (h2 : ∀ (i : Nat) y cs, l[i]? = some y → css[i]? = some cs → cs.length = sz ∧ R y cs) (hl : rx.length = sz) (hx : R x rx) : ∀ (i : Nat) y cs, (l ++ [x])[i]? = some y → (css ++ [rx])[i]? = some cs → cs.length = sz ∧ R y cs := by
  intro i y cs hy hc
  by_cases hi : i < l.length
  · rw [List.getElem?_append_left hi] at hy
    rw [List.getElem?_append_left (by omega)] at hc
    exact h2 i y cs hy hc
  · rw [List.getElem?_append_right (by omega)] at hy hc
    obtain ⟨k1, k2⟩ := List.getElem?_eq_some_iff.1 hy
    have e : i = l.length := by simp at k1; omega
    subst e
    rw [Nat.sub_self] at hy
    rw [h1, Nat.sub_self] at hc
    simp only [List.getElem?_cons_zero, Option.some.injEq] at hy hc
    subst hy hc
    exact ⟨hl, hx⟩
theorem GrL.snoc2 {α : Type} {e : TypeId} {sz : Nat} {R : α → List Value → Prop} {v : Value} {l : List α} {ν : OH} {x y : α} {rx ry : List Value} {css : List (List Value)} (h1 : css.length = l.length) (h2 : ∀ (i : Nat) y cs, l[i]? = some y → css[i]? = some cs → cs.length = sz ∧ R y cs) (h : Grow e sz v (l.length + 1 + 1) (css.flatten ++ rx ++ ry) ν) (hl : rx.length = sz) (hx : R x rx) (hl2 : ry.length = sz) (hy : R y ry) : GrL e sz R v (l ++ [x] ++ [y]) ν :=
  GrL.snoc (css := css ++ [rx]) (by simp [h1]) (snocH h1 h2 hl hx) (by simpa using h) hl2 hy
theorem doneL_len0 {x : Dop} : ∀ {R : List Fl}, (doneL x R false).length ≤ R.length
  | [] => by simp [doneL]
  | f :: R => by
    have hk : (kp x f).length ≤ 1 := by
      unfold kp
      split
      · simp
      · split
        · simp
        · split <;> simp
    have i1 := doneL_len0 (x := x) (R := R)
    unfold doneL
    split
    · rename_i h; cases h.1
    · simp only [List.length_cons, List.length_append]; omega
theorem doneL_len {x : Dop} : ∀ {R : List Fl} {ins : Bool}, (doneL x R ins).length ≤ R.length + 1
  | [], ins => by
    unfold doneL
    split <;> simp
  | f :: R, ins => by
    have hk : (kp x f).length ≤ 1 := by
      unfold kp
      split
      · simp
      · split
        · simp
        · split <;> simp
    have i1 := doneL_len (x := x) (R := R) (ins := false)
    have i2 := doneL_len (x := x) (R := R) (ins := ins)
    have i3 : (doneL x R false).length ≤ R.length := doneL_len0
    unfold doneL
    split
    · simp only [List.length_cons, List.length_append]; omega
    · simp only [List.length_cons, List.length_append]; omega
theorem done_s {G : GH} {R : List Fl} {rv : Value} {kind no : Int} {A0 : Option Addr} {c0 : Nat} {data : List Int} (hs : Fls G rv R) (hr : Ris R) (hd : Bs G (.slice A0 data.length c0) data) (hl : R.length ≤ 10000) (hx : data.length ≤ 100000) (hN : ∀ f ∈ R, f.2.length ≤ 100000) :
    Con Try.prog 49 #[rv, .agg [.int .i64 kind, .int .i64 no, .slice A0 data.length c0].toArray] G [] (fun r G' μ' => GH.le G G' ∧ Fls G' r (doneR R ⟨kind, no, data⟩) ∧ μ' = []) := by
  have qp := place_s no hs
  have hpm := plc_mem (R := R) (no := no)
  have hpa := fun k h => plc_at hr (no := no) (k := k) h
  obtain ⟨A, c, dA, dc, rfl, hlc, hcm, hsome, hcl, hbs⟩ := flOpen hs
  simp only [maxLen] at hcm
  generalize plc R no = at0 at *
  have hins : insB ⟨kind, no, data⟩ R = decide (kind = 1 ∧ at0 < 0) := by
    unfold insB
    simp only [← hpm]
    apply decide_eq_decide.2
    constructor
    · exact fun h => ⟨h.1, by omega⟩
    · exact fun h => ⟨h.1, by omega⟩
  unfold doneR
  rw [hins]
  have hsplit : ∀ i0 : Bool, decide (kind = 1 ∧ at0 < 0) = i0 → (i0 = true → kind = 1 ∧ at0 < 0) ∧ (i0 = false → ¬ (kind = 1 ∧ at0 < 0)) := fun i0 h => ⟨fun e => by rw [e] at h; exact of_decide_eq_true h, fun e => by rw [e] at h; exact of_decide_eq_false h⟩
  have hbx := Src.ints (μ := ([] : OH)) hd
  have hkno := hpm
  generalize hi0 : decide (kind = 1 ∧ at0 < 0) = i0 at *
  have hi1 := hsplit i0 rfl
  clear hsplit
  have hLen : (doneL ⟨kind, no, data⟩ R i0).length ≤ R.length + 1 := doneL_len
  (refine v_enter Try.func49 rfl Try.ntmps49 rfl ?_; intro B _)
  repeat' (first | apply v_seq | apply v_region | apply v_nil | apply v_block | (apply v_take; (case hg => rfl)) | (apply v_pass; (case hg => rfl); (case hn => rfl); (case hd => rfl)) | (apply v_pure; (case hop => first | (apply p_move <;> rfl) | (apply p_ne <;> rfl) | (apply p_ge <;> rfl) | (apply p_assign <;> rfl) | (apply p_pickT <;> rfl) | (apply p_pickF <;> rfl) | (apply p_fieldAddrB <;> rfl) | fail); (case hd => rfl)) | (apply v_guardB; (case h1 => rfl); (case h2 => rfl); all_goals (intro h; (try simp only [reduceCtorEq, dec_true, dec_false, decide_eq_true_eq, decide_eq_false_iff_not, Bool.not_eq_true', Bool.not_eq_false', Option.isNone_iff_eq_none, beq_true, beq_false, beq_iff_eq, beq_eq_false_iff_ne, ne_eq, decide_eq_decide, Bool.not_eq_true, Bool.not_eq_false, Decidable.not_not] at h); first | skip)) | (apply v_box (zs := [.int .i64 kind, .int .i64 no, .slice A0 data.length c0]); (case hx => rfl); (case hz => rfl); (case hd => rfl); intro bx) | (apply v_callJ (hs := qp); (case ha => rfl); (case hd => rfl)) | (apply v_read; (case hop => first | (apply r_load1; rfl; (apply Cell.own; (case h => (repeat (first | exact List.Mem.head _ | fail))); rfl)) | fail); (case hd => rfl)) | fail)
  all_goals
    (refine v_loop [8, 6, 7, 5, 0, 3] (vs := [.int .i64 (0 : Nat), .slice none 0 0, .bool (!i0), .int .i64 at0, .slice A R.length c, .pointer (some ⟨bx, 0, none⟩)]) (fun us G' μ' => GH.le G G' ∧ ∃ (k : Nat) (v : Value) (ν : OH) (ins : Bool) (pre : List Fl), k ≤ R.length ∧ us = [Value.int .i64 (k : Nat), v, .bool (!ins), .int .i64 at0, .slice A R.length c, .pointer (some ⟨bx, 0, none⟩)] ∧ GrL 78 2 (FlR G') v pre ν ∧ pre ++ doneL ⟨kind, no, data⟩ (R.drop k) ins = doneL ⟨kind, no, data⟩ R i0 ∧ (ins = true → kind = 1 ∧ at0 < 0) ∧ μ' = ν ++ [(bx, .cells [.int .i64 kind, .int .i64 no, .slice A0 data.length c0].toArray 84 (0, 0))]) (fun us => R.length - (headI us).toNat) ?_ ⟨GH.le_refl _, 0, _, [], i0, [], by omega, rfl, GrL.nil, rfl, hi1.1, rfl⟩ ?_
     · first
        | (have e : i0 = false := by
             cases i0 with
             | false => rfl
             | true => exact absurd (hi1.1 rfl).1 (by assumption)
           subst e; rfl)
        | (have e : dec (0 ≤ at0) = !i0 := by
             cases i0 with
             | false => exact dec_pos (by have := hi1.2 rfl; omega)
             | true => exact dec_neg (by have := hi1.1 rfl; omega)
           rw [← e]; rfl)
     clear h
     rintro us G' _ ⟨hle, k, v, ν, ins, pre, hk, rfl, hg, hpre, hins', rfl⟩
     have hpl : pre.length ≤ R.length + 1 := by
       have := congrArg List.length hpre
       rw [List.length_append] at this
       omega
     obtain ⟨css, hc1, hc2, hgr⟩ := id hg
     obtain ⟨A6, c6, rfl, hA1, hA2⟩ := hgr.shape
     have e1 : ((k : Nat) : Int).toNat = k := by omega
     have hlem : ∀ (v8 : Value) (n8 : OH) (x : Fl) (rx : List Value), Grow 78 2 v8 (pre.length + 1) (css.flatten ++ rx) n8 → rx.length = 2 → FlR G' x rx → GrL 78 2 (FlR G') v8 (pre ++ [x]) n8 := fun v8 n8 x rx h1 h2 h3 => GrL.snoc hc1 hc2 h1 h2 h3
     by_cases hlt : k < R.length
     · have hdr : R.drop k = R[k] :: R.drop (k + 1) := List.drop_eq_getElem_cons hlt
       rw [hdr] at hpre
       have hck := (hcl k hlt).le hle
       have hbk := (hbs k hlt).mono hle
       have hpk := hpa k hlt
       have hNk := hN _ (List.getElem_mem hlt)
       generalize R[k] = f at hck hbk hpk hNk hpre
       obtain ⟨fno, fd⟩ := f
       simp only at hck hbk hpk hNk
       have hc0 := hck.cell (j := 0) rfl
       have hcs1 := hck.cell (j := 1) rfl
       have hA := hsome (by omega)
       have hR9 : ∀ Z, pre ++ kp ⟨kind, no, data⟩ (fno, fd) ++ Z = pre ++ (kp ⟨kind, no, data⟩ (fno, fd) ++ Z) := fun Z => List.append_assoc _ _ _
       cases ins with
       | true =>
         obtain ⟨hk1, hat⟩ := hins' rfl
         have hne : ¬ fno = no := fun e => by have := hpk.2 e; omega
         have hkp : kp ⟨kind, no, data⟩ (fno, fd) = [(fno, fd)] := by unfold kp; rw [if_pos hne]
         by_cases hgt : no < fno
         · have hst : pre ++ [(no, [])] ++ [(fno, fd)] ++ doneL ⟨kind, no, data⟩ (R.drop (k + 1)) false = doneL ⟨kind, no, data⟩ R i0 := by
             rw [← hpre]
             conv => rhs; unfold doneL
             rw [if_pos ⟨rfl, hgt⟩, hkp]
             simp
           repeat' (first | apply v_seq | apply v_region | apply v_nil | apply v_skip | apply v_block | (apply v_pure; (case hop => first | (apply p_move <;> rfl) | (apply p_lt <;> rfl) | (apply p_lenSlice <;> rfl) | fail); (case hd => rfl)) | (apply v_cond; (case hc => rfl); all_goals (intro h; (try simp only [reduceCtorEq, dec_true, dec_false, decide_eq_true_eq, decide_eq_false_iff_not, Bool.not_eq_true', Bool.not_eq_false', Option.isNone_iff_eq_none, beq_true, beq_false, beq_iff_eq, beq_eq_false_iff_ne, ne_eq, decide_eq_decide, Bool.not_eq_true, Bool.not_eq_false, Decidable.not_not] at h); first | (exfalso; omega) | skip)) | fail)
           refine d_start [(bx, .cells [.int .i64 kind, .int .i64 no, .slice A0 data.length c0].toArray 84 (0, 0))] (by kernel_rfl) (by kernel_rfl) (by kernel_rfl) (by intro e he; first | (simp at he; simp [he]) | fail) ?_
           all_goals (first | (apply d_take 0; (case hi => rfl); (case hop => first | (apply PureOp.read; apply p_move <;> rfl)); (case hf => kernel_rfl); (case hr => kernel_rfl); (case hd => rfl)) | fail)
           all_goals (first | (apply d_take 1; (case hi => rfl); (case hop => first | (apply PureOp.read; apply p_not <;> rfl)); (case hf => kernel_rfl); (case hr => kernel_rfl); (case hd => rfl)) | fail)
           all_goals (first | (apply d_take 2; (case hi => rfl); (case hop => first | (apply PureOp.read; apply p_move <;> rfl)); (case hf => kernel_rfl); (case hr => kernel_rfl); (case hd => rfl)) | fail)
           all_goals (try (apply d_guardB 3; (case hi => rfl); (case hgd => rfl); (case h1 => rfl); (case h2 => first | rfl); all_goals (intro h; (try simp only [reduceCtorEq, dec_true, dec_false, decide_eq_true_eq, decide_eq_false_iff_not, Bool.not_eq_true', Bool.not_eq_false', Option.isNone_iff_eq_none, beq_true, beq_false, beq_iff_eq, beq_eq_false_iff_ne, ne_eq, decide_eq_decide, Bool.not_eq_true, Bool.not_eq_false, Decidable.not_not] at h); first | done | skip)))
           all_goals (first | (apply d_takeG 3; (case hi => rfl); (case hg => rfl); (case hop => first | (apply PureOp.read; apply p_move <;> rfl)); (case hf => kernel_rfl); (case hr => kernel_rfl); (case hd => rfl)) | fail)
           all_goals (try (apply d_guardB 4; (case hi => rfl); (case hgd => rfl); (case h1 => rfl); (case h2 => first | rfl); all_goals (intro h; (try simp only [reduceCtorEq, dec_true, dec_false, decide_eq_true_eq, decide_eq_false_iff_not, Bool.not_eq_true', Bool.not_eq_false', Option.isNone_iff_eq_none, beq_true, beq_false, beq_iff_eq, beq_eq_false_iff_ne, ne_eq, decide_eq_decide, Bool.not_eq_true, Bool.not_eq_false, Decidable.not_not] at h); first | done | skip)))
           all_goals (first | (apply d_takeG 4; (case hi => rfl); (case hg => rfl); (case hop => first | (apply PureOp.read; apply p_move <;> rfl)); (case hf => kernel_rfl); (case hr => kernel_rfl); (case hd => rfl)) | fail)
           all_goals (try (apply d_guardB 5; (case hi => rfl); (case hgd => rfl); (case h1 => rfl); (case h2 => first | rfl); all_goals (intro h; (try simp only [reduceCtorEq, dec_true, dec_false, decide_eq_true_eq, decide_eq_false_iff_not, Bool.not_eq_true', Bool.not_eq_false', Option.isNone_iff_eq_none, beq_true, beq_false, beq_iff_eq, beq_eq_false_iff_ne, ne_eq, decide_eq_decide, Bool.not_eq_true, Bool.not_eq_false, Decidable.not_not] at h); first | done | skip)))
           all_goals (first | (apply d_takeG 5; (case hi => rfl); (case hg => rfl); (case hop => first | (apply PureOp.read; apply p_indexAddrS; (case hx => rfl); (case hi => rfl); (case h0 => omega); (case h => omega); (case hA => first | assumption | fail))); (case hf => kernel_rfl); (case hr => kernel_rfl); (case hd => rfl)) | fail)
           all_goals (try (apply d_guardB 6; (case hi => rfl); (case hgd => rfl); (case h1 => rfl); (case h2 => first | rfl); all_goals (intro h; (try simp only [reduceCtorEq, dec_true, dec_false, decide_eq_true_eq, decide_eq_false_iff_not, Bool.not_eq_true', Bool.not_eq_false', Option.isNone_iff_eq_none, beq_true, beq_false, beq_iff_eq, beq_eq_false_iff_ne, ne_eq, decide_eq_decide, Bool.not_eq_true, Bool.not_eq_false, Decidable.not_not] at h); first | done | skip)))
           all_goals (first | (apply d_takeG 6; (case hi => rfl); (case hg => rfl); (case hop => first | (apply PureOp.read; apply p_fieldAddr <;> rfl)); (case hf => kernel_rfl); (case hr => kernel_rfl); (case hd => rfl)) | fail)
           all_goals (try (apply d_guardB 7; (case hi => rfl); (case hgd => rfl); (case h1 => rfl); (case h2 => first | rfl); all_goals (intro h; (try simp only [reduceCtorEq, dec_true, dec_false, decide_eq_true_eq, decide_eq_false_iff_not, Bool.not_eq_true', Bool.not_eq_false', Option.isNone_iff_eq_none, beq_true, beq_false, beq_iff_eq, beq_eq_false_iff_ne, ne_eq, decide_eq_decide, Bool.not_eq_true, Bool.not_eq_false, Decidable.not_not] at h); first | done | skip)))
           all_goals (first | (apply d_takeG 7; (case hi => rfl); (case hg => rfl); (case hop => first | ((apply r_load1; rfl; exact Cell.frozen hc0)) | fail); (case hf => kernel_rfl); (case hr => kernel_rfl); (case hd => rfl)) | fail)
           all_goals (try (apply d_guardB 8; (case hi => rfl); (case hgd => rfl); (case h1 => rfl); (case h2 => first | rfl); all_goals (intro h; (try simp only [reduceCtorEq, dec_true, dec_false, decide_eq_true_eq, decide_eq_false_iff_not, Bool.not_eq_true', Bool.not_eq_false', Option.isNone_iff_eq_none, beq_true, beq_false, beq_iff_eq, beq_eq_false_iff_ne, ne_eq, decide_eq_decide, Bool.not_eq_true, Bool.not_eq_false, Decidable.not_not] at h); first | done | skip)))
           all_goals (first | (apply d_takeG 8; (case hi => rfl); (case hg => rfl); (case hop => first | (apply PureOp.read; apply p_fieldAddrB <;> rfl) | fail); (case hf => kernel_rfl); (case hr => kernel_rfl); (case hd => rfl)) | fail)
           all_goals (try (apply d_guardB 9; (case hi => rfl); (case hgd => rfl); (case h1 => rfl); (case h2 => first | rfl); all_goals (intro h; (try simp only [reduceCtorEq, dec_true, dec_false, decide_eq_true_eq, decide_eq_false_iff_not, Bool.not_eq_true', Bool.not_eq_false', Option.isNone_iff_eq_none, beq_true, beq_false, beq_iff_eq, beq_eq_false_iff_ne, ne_eq, decide_eq_decide, Bool.not_eq_true, Bool.not_eq_false, Decidable.not_not] at h); first | done | skip)))
           all_goals (first | (apply d_takeG 9; (case hi => rfl); (case hg => rfl); (case hop => first | (apply r_load1; rfl; (apply Cell.own; (case h => (repeat (first | exact List.Mem.head _ | fail))); rfl)) | fail); (case hf => kernel_rfl); (case hr => kernel_rfl); (case hd => rfl)) | fail)
           all_goals (try (apply d_guardB 10; (case hi => rfl); (case hgd => rfl); (case h1 => rfl); (case h2 => first | rfl); all_goals (intro h; (try simp only [reduceCtorEq, dec_true, dec_false, decide_eq_true_eq, decide_eq_false_iff_not, Bool.not_eq_true', Bool.not_eq_false', Option.isNone_iff_eq_none, beq_true, beq_false, beq_iff_eq, beq_eq_false_iff_ne, ne_eq, decide_eq_decide, Bool.not_eq_true, Bool.not_eq_false, Decidable.not_not] at h); first | done | skip)))
           all_goals (first | (apply d_takeG 10; (case hi => rfl); (case hg => rfl); (case hop => first | (apply PureOp.read; apply p_gt <;> rfl)); (case hf => kernel_rfl); (case hr => kernel_rfl); (case hd => rfl)) | fail)
           all_goals (first | (apply d_take 11; (case hi => rfl); (case hop => first | (apply PureOp.read; apply p_pickT <;> rfl) | fail); (case hf => kernel_rfl); (case hr => kernel_rfl); (case hd => rfl)) | fail)
           all_goals (apply d_done; (case hr => kernel_rfl))
           repeat' (first | apply v_seq | apply v_region | apply v_nil | (apply v_exit; (case hp => rfl)) | (apply v_pure; (case hop => first | (apply p_move <;> rfl) | (apply p_ne <;> rfl) | (apply p_assign <;> rfl) | (apply p_fieldAddrB <;> rfl) | (apply p_add; (case hx => rfl); (case hy => rfl); (case h => omega)) | (apply p_indexAddrS; (case hx => rfl); (case hi => rfl); (case h0 => omega); (case h => omega); (case hA => first | assumption | fail)) | (apply p_build; (case hz => rfl); (case hv => (simp only [List.map_cons, List.map_nil]; repeat (first | with_reducible exact evs_nil | (apply evs_cons; (case h1 => rfl))))); (case hb => (apply bldL; repeat (first | exact bld_nil | (apply bld_cons; (case hpf => rfl); (case hc => rfl); (case hs => rfl); (case hl => rfl); (case ho => (first | ((repeat (first | with_reducible exact ov_nil | apply ov_cons | fail)); done) | fail))))))) | fail); (case hd => rfl)) | (apply v_cond; (case hc => rfl); all_goals (intro h; (try simp only [reduceCtorEq, dec_true, dec_false, decide_eq_true_eq, decide_eq_false_iff_not, Bool.not_eq_true', Bool.not_eq_false', Option.isNone_iff_eq_none, beq_true, beq_false, beq_iff_eq, beq_eq_false_iff_ne, ne_eq, decide_eq_decide, Bool.not_eq_true, Bool.not_eq_false, Decidable.not_not] at h); first | (exfalso; omega) | skip)) | (apply v_append (e := 78) (hg := hg8) (m' := 1) (hp := PickA.perm (by repeat (first | exact PickA.here _ | apply PickA.cons | fail))) (hsrc := Src.own (List.Mem.head _) rfl); (case hzs => rfl); (case hsz => omega); (case hs => rfl); (case hx => rfl); (case hb => omega); (case hb' => simp only [maxLen]; omega); (case hd => rfl); (case h1 => rfl); intro v9 n9 hg9; obtain ⟨A9, c9, rfl, -, -⟩ := hg9.shape) | (apply v_append (e := 78) (hg := hgr) (m' := 1) (hp := PickA.perm (by repeat (first | exact PickA.here _ | apply PickA.cons | fail))) (hsrc := Src.own (List.Mem.head _) rfl); (case hzs => rfl); (case hsz => omega); (case hs => rfl); (case hx => rfl); (case hb => omega); (case hb' => simp only [maxLen]; omega); (case hd => rfl); (case h1 => rfl); intro v8 n8 hg8; obtain ⟨A8, c8, rfl, -, -⟩ := hg8.shape) | (apply v_read; (case hop => first | (apply r_loadN; rfl; exact CellsAt.frozen hck; rfl)); (case hd => rfl)) | (apply v_read; (case hop => first | (apply r_load1; rfl; (apply Cell.own; (case h => (repeat (first | exact List.Mem.head _ | apply List.mem_append_right))); rfl)) | fail); (case hd => rfl)) | (apply v_buildSlice; (case hz => rfl); (case hi => rfl); (case hv => (simp only [List.map_cons, List.map_nil]; repeat (first | with_reducible exact evs_nil | (apply evs_cons; (case h1 => rfl))))); (case hp => (first | (apply pk_cons; (case hc => rfl); (case hs => rfl); (case h => (first | with_reducible exact pk_nil | fail)); (case he => (first | ((repeat (first | with_reducible exact ap_nil | apply ap_cons)); done) | fail))) | fail)); (case hb => rfl); (case hd => rfl); intro b) | fail)
           refine v_drop (ν := n9 ++ [(bx, .cells [.int .i64 kind, .int .i64 no, .slice A0 data.length c0].toArray 84 (0, 0))]) (List.Sublist.append_left (List.Sublist.cons _ (List.Sublist.cons _ (List.Sublist.refl _))) _) ?_
           refine v_again rfl ⟨hle, k + 1, _, n9, false, _, by omega, rfl, ?_, hst, fun h => (by cases h), rfl⟩ (by simp [headI]; omega)
           exact GrL.snoc2 hc1 hc2 hg9 rfl ⟨none, 0, rfl, Sl.nil⟩ rfl ⟨dA k, dc k, rfl, hbk⟩
         · have hst : pre ++ [(fno, fd)] ++ doneL ⟨kind, no, data⟩ (R.drop (k + 1)) true = doneL ⟨kind, no, data⟩ R i0 := by
             rw [← hpre]
             conv => rhs; unfold doneL
             rw [if_neg (fun h => hgt h.2), hkp]
             simp
           repeat' (first | apply v_seq | apply v_region | apply v_nil | apply v_skip | apply v_block | (apply v_pure; (case hop => first | (apply p_move <;> rfl) | (apply p_lt <;> rfl) | (apply p_lenSlice <;> rfl) | fail); (case hd => rfl)) | (apply v_cond; (case hc => rfl); all_goals (intro h; (try simp only [reduceCtorEq, dec_true, dec_false, decide_eq_true_eq, decide_eq_false_iff_not, Bool.not_eq_true', Bool.not_eq_false', Option.isNone_iff_eq_none, beq_true, beq_false, beq_iff_eq, beq_eq_false_iff_ne, ne_eq, decide_eq_decide, Bool.not_eq_true, Bool.not_eq_false, Decidable.not_not] at h); first | (exfalso; omega) | skip)) | fail)
           refine d_start [(bx, .cells [.int .i64 kind, .int .i64 no, .slice A0 data.length c0].toArray 84 (0, 0))] (by kernel_rfl) (by kernel_rfl) (by kernel_rfl) (by intro e he; first | (simp at he; simp [he]) | fail) ?_
           all_goals (first | (apply d_take 0; (case hi => rfl); (case hop => first | (apply PureOp.read; apply p_move <;> rfl)); (case hf => kernel_rfl); (case hr => kernel_rfl); (case hd => rfl)) | fail)
           all_goals (first | (apply d_take 1; (case hi => rfl); (case hop => first | (apply PureOp.read; apply p_not <;> rfl)); (case hf => kernel_rfl); (case hr => kernel_rfl); (case hd => rfl)) | fail)
           all_goals (first | (apply d_take 2; (case hi => rfl); (case hop => first | (apply PureOp.read; apply p_move <;> rfl)); (case hf => kernel_rfl); (case hr => kernel_rfl); (case hd => rfl)) | fail)
           all_goals (try (apply d_guardB 3; (case hi => rfl); (case hgd => rfl); (case h1 => rfl); (case h2 => first | rfl); all_goals (intro h; (try simp only [reduceCtorEq, dec_true, dec_false, decide_eq_true_eq, decide_eq_false_iff_not, Bool.not_eq_true', Bool.not_eq_false', Option.isNone_iff_eq_none, beq_true, beq_false, beq_iff_eq, beq_eq_false_iff_ne, ne_eq, decide_eq_decide, Bool.not_eq_true, Bool.not_eq_false, Decidable.not_not] at h); first | done | skip)))
           all_goals (first | (apply d_takeG 3; (case hi => rfl); (case hg => rfl); (case hop => first | (apply PureOp.read; apply p_move <;> rfl)); (case hf => kernel_rfl); (case hr => kernel_rfl); (case hd => rfl)) | fail)
           all_goals (try (apply d_guardB 4; (case hi => rfl); (case hgd => rfl); (case h1 => rfl); (case h2 => first | rfl); all_goals (intro h; (try simp only [reduceCtorEq, dec_true, dec_false, decide_eq_true_eq, decide_eq_false_iff_not, Bool.not_eq_true', Bool.not_eq_false', Option.isNone_iff_eq_none, beq_true, beq_false, beq_iff_eq, beq_eq_false_iff_ne, ne_eq, decide_eq_decide, Bool.not_eq_true, Bool.not_eq_false, Decidable.not_not] at h); first | done | skip)))
           all_goals (first | (apply d_takeG 4; (case hi => rfl); (case hg => rfl); (case hop => first | (apply PureOp.read; apply p_move <;> rfl)); (case hf => kernel_rfl); (case hr => kernel_rfl); (case hd => rfl)) | fail)
           all_goals (try (apply d_guardB 5; (case hi => rfl); (case hgd => rfl); (case h1 => rfl); (case h2 => first | rfl); all_goals (intro h; (try simp only [reduceCtorEq, dec_true, dec_false, decide_eq_true_eq, decide_eq_false_iff_not, Bool.not_eq_true', Bool.not_eq_false', Option.isNone_iff_eq_none, beq_true, beq_false, beq_iff_eq, beq_eq_false_iff_ne, ne_eq, decide_eq_decide, Bool.not_eq_true, Bool.not_eq_false, Decidable.not_not] at h); first | done | skip)))
           all_goals (first | (apply d_takeG 5; (case hi => rfl); (case hg => rfl); (case hop => first | (apply PureOp.read; apply p_indexAddrS; (case hx => rfl); (case hi => rfl); (case h0 => omega); (case h => omega); (case hA => first | assumption | fail))); (case hf => kernel_rfl); (case hr => kernel_rfl); (case hd => rfl)) | fail)
           all_goals (try (apply d_guardB 6; (case hi => rfl); (case hgd => rfl); (case h1 => rfl); (case h2 => first | rfl); all_goals (intro h; (try simp only [reduceCtorEq, dec_true, dec_false, decide_eq_true_eq, decide_eq_false_iff_not, Bool.not_eq_true', Bool.not_eq_false', Option.isNone_iff_eq_none, beq_true, beq_false, beq_iff_eq, beq_eq_false_iff_ne, ne_eq, decide_eq_decide, Bool.not_eq_true, Bool.not_eq_false, Decidable.not_not] at h); first | done | skip)))
           all_goals (first | (apply d_takeG 6; (case hi => rfl); (case hg => rfl); (case hop => first | (apply PureOp.read; apply p_fieldAddr <;> rfl)); (case hf => kernel_rfl); (case hr => kernel_rfl); (case hd => rfl)) | fail)
           all_goals (try (apply d_guardB 7; (case hi => rfl); (case hgd => rfl); (case h1 => rfl); (case h2 => first | rfl); all_goals (intro h; (try simp only [reduceCtorEq, dec_true, dec_false, decide_eq_true_eq, decide_eq_false_iff_not, Bool.not_eq_true', Bool.not_eq_false', Option.isNone_iff_eq_none, beq_true, beq_false, beq_iff_eq, beq_eq_false_iff_ne, ne_eq, decide_eq_decide, Bool.not_eq_true, Bool.not_eq_false, Decidable.not_not] at h); first | done | skip)))
           all_goals (first | (apply d_takeG 7; (case hi => rfl); (case hg => rfl); (case hop => first | ((apply r_load1; rfl; exact Cell.frozen hc0)) | fail); (case hf => kernel_rfl); (case hr => kernel_rfl); (case hd => rfl)) | fail)
           all_goals (try (apply d_guardB 8; (case hi => rfl); (case hgd => rfl); (case h1 => rfl); (case h2 => first | rfl); all_goals (intro h; (try simp only [reduceCtorEq, dec_true, dec_false, decide_eq_true_eq, decide_eq_false_iff_not, Bool.not_eq_true', Bool.not_eq_false', Option.isNone_iff_eq_none, beq_true, beq_false, beq_iff_eq, beq_eq_false_iff_ne, ne_eq, decide_eq_decide, Bool.not_eq_true, Bool.not_eq_false, Decidable.not_not] at h); first | done | skip)))
           all_goals (first | (apply d_takeG 8; (case hi => rfl); (case hg => rfl); (case hop => first | (apply PureOp.read; apply p_fieldAddrB <;> rfl) | fail); (case hf => kernel_rfl); (case hr => kernel_rfl); (case hd => rfl)) | fail)
           all_goals (try (apply d_guardB 9; (case hi => rfl); (case hgd => rfl); (case h1 => rfl); (case h2 => first | rfl); all_goals (intro h; (try simp only [reduceCtorEq, dec_true, dec_false, decide_eq_true_eq, decide_eq_false_iff_not, Bool.not_eq_true', Bool.not_eq_false', Option.isNone_iff_eq_none, beq_true, beq_false, beq_iff_eq, beq_eq_false_iff_ne, ne_eq, decide_eq_decide, Bool.not_eq_true, Bool.not_eq_false, Decidable.not_not] at h); first | done | skip)))
           all_goals (first | (apply d_takeG 9; (case hi => rfl); (case hg => rfl); (case hop => first | (apply r_load1; rfl; (apply Cell.own; (case h => (repeat (first | exact List.Mem.head _ | fail))); rfl)) | fail); (case hf => kernel_rfl); (case hr => kernel_rfl); (case hd => rfl)) | fail)
           all_goals (try (apply d_guardB 10; (case hi => rfl); (case hgd => rfl); (case h1 => rfl); (case h2 => first | rfl); all_goals (intro h; (try simp only [reduceCtorEq, dec_true, dec_false, decide_eq_true_eq, decide_eq_false_iff_not, Bool.not_eq_true', Bool.not_eq_false', Option.isNone_iff_eq_none, beq_true, beq_false, beq_iff_eq, beq_eq_false_iff_ne, ne_eq, decide_eq_decide, Bool.not_eq_true, Bool.not_eq_false, Decidable.not_not] at h); first | done | skip)))
           all_goals (first | (apply d_takeG 10; (case hi => rfl); (case hg => rfl); (case hop => first | (apply PureOp.read; apply p_gt <;> rfl)); (case hf => kernel_rfl); (case hr => kernel_rfl); (case hd => rfl)) | fail)
           all_goals (first | (apply d_take 11; (case hi => rfl); (case hop => first | (apply PureOp.read; apply p_pickT <;> rfl) | fail); (case hf => kernel_rfl); (case hr => kernel_rfl); (case hd => rfl)) | fail)
           all_goals (apply d_done; (case hr => kernel_rfl))
           repeat' (first | apply v_seq | apply v_region | apply v_nil | apply v_skip | (apply v_exit; (case hp => rfl)) | (apply v_pure; (case hop => first | (apply p_move <;> rfl) | (apply p_ne <;> rfl) | (apply p_assign <;> rfl) | (apply p_add; (case hx => rfl); (case hy => rfl); (case h => omega)) | (apply p_indexAddrS; (case hx => rfl); (case hi => rfl); (case h0 => omega); (case h => omega); (case hA => first | assumption | fail)) | fail); (case hd => rfl)) | (apply v_cond; (case hc => rfl); all_goals (intro h; (try simp only [reduceCtorEq, dec_true, dec_false, decide_eq_true_eq, decide_eq_false_iff_not, Bool.not_eq_true', Bool.not_eq_false', Option.isNone_iff_eq_none, beq_true, beq_false, beq_iff_eq, beq_eq_false_iff_ne, ne_eq, decide_eq_decide, Bool.not_eq_true, Bool.not_eq_false, Decidable.not_not] at h); first | (exfalso; omega) | skip)) | (apply v_append (e := 78) (hg := hgr) (m' := 1) (hp := PickA.perm (by repeat (first | exact PickA.here _ | apply PickA.cons | fail))) (hsrc := Src.own (List.Mem.head _) rfl); (case hzs => rfl); (case hsz => omega); (case hs => rfl); (case hx => rfl); (case hb => omega); (case hb' => simp only [maxLen]; omega); (case hd => rfl); (case h1 => rfl); intro v8 n8 hg8; obtain ⟨A8, c8, rfl, -, -⟩ := hg8.shape) | (apply v_read; (case hop => first | (apply r_loadN; rfl; exact CellsAt.frozen hck; rfl)); (case hd => rfl)) | (apply v_buildSlice; (case hz => rfl); (case hi => rfl); (case hv => (simp only [List.map_cons, List.map_nil]; repeat (first | with_reducible exact evs_nil | (apply evs_cons; (case h1 => rfl))))); (case hp => (first | (apply pk_cons; (case hc => rfl); (case hs => rfl); (case h => (first | with_reducible exact pk_nil | fail)); (case he => (first | ((repeat (first | with_reducible exact ap_nil | apply ap_cons)); done) | fail))) | fail)); (case hb => rfl); (case hd => rfl); intro b) | fail)
           refine v_drop (ν := n8 ++ [(bx, .cells [.int .i64 kind, .int .i64 no, .slice A0 data.length c0].toArray 84 (0, 0))]) (List.Sublist.append_left (List.Sublist.cons _ (List.Sublist.refl _)) _) ?_
           refine v_again rfl ⟨hle, k + 1, _, n8, true, _, by omega, rfl, ?_, hst, fun _ => ⟨hk1, hat⟩, rfl⟩ (by simp [headI]; omega)
           exact hlem _ _ _ _ hg8 rfl ⟨dA k, dc k, rfl, hbk⟩
       | false =>
         have hst : pre ++ kp ⟨kind, no, data⟩ (fno, fd) ++ doneL ⟨kind, no, data⟩ (R.drop (k + 1)) false = doneL ⟨kind, no, data⟩ R i0 := by
           rw [← hpre]
           conv => rhs; unfold doneL
           rw [if_neg (fun h => by cases h.1)]
           simp
         by_cases hfe : fno = no
         · by_cases hk2 : kind = 2
           · have hkp : kp ⟨kind, no, data⟩ (fno, fd) = [(no, fd ++ data)] := by unfold kp; rw [if_neg (not_not_intro hfe), if_pos hk2]
             rw [hkp] at hst
             have hal1 : (fd.map (Value.int .u8 ·)).all Value.oneCell' = true := allOne_ints fd
             have hal2 : (data.map (Value.int .u8 ·)).all Value.oneCell' = true := allOne_ints data
             obtain ⟨_, _, _, _, _, _, _, hwf1⟩ := hbk.openInt
             obtain ⟨_, _, _, _, _, _, _, hwf2⟩ := hd.openInt
             have hwf3 : ∀ y ∈ fd ++ data, (Lit.int .u8 y).wf = true := fun y hy => (List.mem_append.1 hy).elim (hwf1 y) (hwf2 y)
             repeat' (first | apply v_seq | apply v_region | apply v_nil | apply v_skip | apply v_block | (apply v_pure; (case hop => first | (apply p_move <;> rfl) | (apply p_lt <;> rfl) | (apply p_lenSlice <;> rfl) | fail); (case hd => rfl)) | (apply v_cond; (case hc => rfl); all_goals (intro h; (try simp only [reduceCtorEq, dec_true, dec_false, decide_eq_true_eq, decide_eq_false_iff_not, Bool.not_eq_true', Bool.not_eq_false', Option.isNone_iff_eq_none, beq_true, beq_false, beq_iff_eq, beq_eq_false_iff_ne, ne_eq, decide_eq_decide, Bool.not_eq_true, Bool.not_eq_false, Decidable.not_not] at h); first | (exfalso; omega) | skip)) | fail)
             refine d_start [(bx, .cells [.int .i64 kind, .int .i64 no, .slice A0 data.length c0].toArray 84 (0, 0))] (by kernel_rfl) (by kernel_rfl) (by kernel_rfl) (by intro e he; first | (simp at he; simp [he]) | fail) ?_
             all_goals (first | (apply d_take 0; (case hi => rfl); (case hop => first | (apply PureOp.read; apply p_move <;> rfl)); (case hf => kernel_rfl); (case hr => kernel_rfl); (case hd => rfl)) | fail)
             all_goals (first | (apply d_take 1; (case hi => rfl); (case hop => first | (apply PureOp.read; apply p_not <;> rfl)); (case hf => kernel_rfl); (case hr => kernel_rfl); (case hd => rfl)) | fail)
             all_goals (first | (apply d_take 2; (case hi => rfl); (case hop => first | (apply PureOp.read; apply p_move <;> rfl)); (case hf => kernel_rfl); (case hr => kernel_rfl); (case hd => rfl)) | fail)
             all_goals (try (apply d_guardB 3; (case hi => rfl); (case hgd => rfl); (case h1 => rfl); (case h2 => first | rfl); all_goals (intro h; (try simp only [reduceCtorEq, dec_true, dec_false, decide_eq_true_eq, decide_eq_false_iff_not, Bool.not_eq_true', Bool.not_eq_false', Option.isNone_iff_eq_none, beq_true, beq_false, beq_iff_eq, beq_eq_false_iff_ne, ne_eq, decide_eq_decide, Bool.not_eq_true, Bool.not_eq_false, Decidable.not_not] at h); first | done | skip)))
             all_goals (first | (apply d_pass 3; (case hi => rfl); (case hg => rfl); (case hn => rfl); (case hf => kernel_rfl); (case hr => kernel_rfl); (case hd => rfl)) | fail)
             all_goals (try (apply d_guardB 4; (case hi => rfl); (case hgd => rfl); (case h1 => rfl); (case h2 => first | rfl); all_goals (intro h; (try simp only [reduceCtorEq, dec_true, dec_false, decide_eq_true_eq, decide_eq_false_iff_not, Bool.not_eq_true', Bool.not_eq_false', Option.isNone_iff_eq_none, beq_true, beq_false, beq_iff_eq, beq_eq_false_iff_ne, ne_eq, decide_eq_decide, Bool.not_eq_true, Bool.not_eq_false, Decidable.not_not] at h); first | done | skip)))
             all_goals (first | (apply d_pass 4; (case hi => rfl); (case hg => rfl); (case hn => rfl); (case hf => kernel_rfl); (case hr => kernel_rfl); (case hd => rfl)) | fail)
             all_goals (try (apply d_guardB 5; (case hi => rfl); (case hgd => rfl); (case h1 => rfl); (case h2 => first | rfl); all_goals (intro h; (try simp only [reduceCtorEq, dec_true, dec_false, decide_eq_true_eq, decide_eq_false_iff_not, Bool.not_eq_true', Bool.not_eq_false', Option.isNone_iff_eq_none, beq_true, beq_false, beq_iff_eq, beq_eq_false_iff_ne, ne_eq, decide_eq_decide, Bool.not_eq_true, Bool.not_eq_false, Decidable.not_not] at h); first | done | skip)))
             all_goals (first | (apply d_pass 5; (case hi => rfl); (case hg => rfl); (case hn => rfl); (case hf => kernel_rfl); (case hr => kernel_rfl); (case hd => rfl)) | fail)
             all_goals (try (apply d_guardB 6; (case hi => rfl); (case hgd => rfl); (case h1 => rfl); (case h2 => first | rfl); all_goals (intro h; (try simp only [reduceCtorEq, dec_true, dec_false, decide_eq_true_eq, decide_eq_false_iff_not, Bool.not_eq_true', Bool.not_eq_false', Option.isNone_iff_eq_none, beq_true, beq_false, beq_iff_eq, beq_eq_false_iff_ne, ne_eq, decide_eq_decide, Bool.not_eq_true, Bool.not_eq_false, Decidable.not_not] at h); first | done | skip)))
             all_goals (first | (apply d_pass 6; (case hi => rfl); (case hg => rfl); (case hn => rfl); (case hf => kernel_rfl); (case hr => kernel_rfl); (case hd => rfl)) | fail)
             all_goals (try (apply d_guardB 7; (case hi => rfl); (case hgd => rfl); (case h1 => rfl); (case h2 => first | rfl); all_goals (intro h; (try simp only [reduceCtorEq, dec_true, dec_false, decide_eq_true_eq, decide_eq_false_iff_not, Bool.not_eq_true', Bool.not_eq_false', Option.isNone_iff_eq_none, beq_true, beq_false, beq_iff_eq, beq_eq_false_iff_ne, ne_eq, decide_eq_decide, Bool.not_eq_true, Bool.not_eq_false, Decidable.not_not] at h); first | done | skip)))
             all_goals (first | (apply d_pass 7; (case hi => rfl); (case hg => rfl); (case hn => rfl); (case hf => kernel_rfl); (case hr => kernel_rfl); (case hd => rfl)) | fail)
             all_goals (try (apply d_guardB 8; (case hi => rfl); (case hgd => rfl); (case h1 => rfl); (case h2 => first | rfl); all_goals (intro h; (try simp only [reduceCtorEq, dec_true, dec_false, decide_eq_true_eq, decide_eq_false_iff_not, Bool.not_eq_true', Bool.not_eq_false', Option.isNone_iff_eq_none, beq_true, beq_false, beq_iff_eq, beq_eq_false_iff_ne, ne_eq, decide_eq_decide, Bool.not_eq_true, Bool.not_eq_false, Decidable.not_not] at h); first | done | skip)))
             all_goals (first | (apply d_pass 8; (case hi => rfl); (case hg => rfl); (case hn => rfl); (case hf => kernel_rfl); (case hr => kernel_rfl); (case hd => rfl)) | fail)
             all_goals (try (apply d_guardB 9; (case hi => rfl); (case hgd => rfl); (case h1 => rfl); (case h2 => first | rfl); all_goals (intro h; (try simp only [reduceCtorEq, dec_true, dec_false, decide_eq_true_eq, decide_eq_false_iff_not, Bool.not_eq_true', Bool.not_eq_false', Option.isNone_iff_eq_none, beq_true, beq_false, beq_iff_eq, beq_eq_false_iff_ne, ne_eq, decide_eq_decide, Bool.not_eq_true, Bool.not_eq_false, Decidable.not_not] at h); first | done | skip)))
             all_goals (first | (apply d_pass 9; (case hi => rfl); (case hg => rfl); (case hn => rfl); (case hf => kernel_rfl); (case hr => kernel_rfl); (case hd => rfl)) | fail)
             all_goals (try (apply d_guardB 10; (case hi => rfl); (case hgd => rfl); (case h1 => rfl); (case h2 => first | rfl); all_goals (intro h; (try simp only [reduceCtorEq, dec_true, dec_false, decide_eq_true_eq, decide_eq_false_iff_not, Bool.not_eq_true', Bool.not_eq_false', Option.isNone_iff_eq_none, beq_true, beq_false, beq_iff_eq, beq_eq_false_iff_ne, ne_eq, decide_eq_decide, Bool.not_eq_true, Bool.not_eq_false, Decidable.not_not] at h); first | done | skip)))
             all_goals (first | (apply d_pass 10; (case hi => rfl); (case hg => rfl); (case hn => rfl); (case hf => kernel_rfl); (case hr => kernel_rfl); (case hd => rfl)) | fail)
             all_goals (first | (apply d_take 11; (case hi => rfl); (case hop => first | (apply PureOp.read; apply p_pickF <;> rfl) | fail); (case hf => kernel_rfl); (case hr => kernel_rfl); (case hd => rfl)) | fail)
             all_goals (apply d_done; (case hr => kernel_rfl))
             repeat' (first | apply v_seq | apply v_region | apply v_nil | apply v_skip | (apply v_pure; (case hop => first | (apply p_move <;> rfl) | (apply p_eq <;> rfl) | (apply p_ne <;> rfl) | (apply p_fieldAddrB <;> rfl) | fail); (case hd => rfl)) | (apply v_condF; (case hc => rfl)) | (apply v_cond; (case hc => rfl); all_goals (intro h; (try simp only [reduceCtorEq, dec_true, dec_false, decide_eq_true_eq, decide_eq_false_iff_not, Bool.not_eq_true', Bool.not_eq_false', Option.isNone_iff_eq_none, beq_true, beq_false, beq_iff_eq, beq_eq_false_iff_ne, ne_eq, decide_eq_decide, Bool.not_eq_true, Bool.not_eq_false, Decidable.not_not] at h); first | (exfalso; omega) | skip)) | (apply v_read; (case hop => first | (apply r_load1; rfl; (apply Cell.own; (case h => (repeat (first | exact List.Mem.head _ | apply List.mem_append_right))); rfl)) | fail); (case hd => rfl)) | fail)
             refine d_start [(bx, .cells [.int .i64 kind, .int .i64 no, .slice A0 data.length c0].toArray 84 (0, 0))] (by kernel_rfl) (by kernel_rfl) (by kernel_rfl) (by intro e he; first | (simp at he; simp [he]) | fail) ?_
             all_goals (first | (apply d_take 0; (case hi => rfl); (case hop => first | (apply PureOp.read; apply p_move <;> rfl)); (case hf => kernel_rfl); (case hr => kernel_rfl); (case hd => rfl)) | fail)
             all_goals (first | (apply d_take 1; (case hi => rfl); (case hop => first | (apply PureOp.read; apply p_fieldAddrB <;> rfl) | fail); (case hf => kernel_rfl); (case hr => kernel_rfl); (case hd => rfl)) | fail)
             all_goals (first | (apply d_take 2; (case hi => rfl); (case hop => first | (apply r_load1; rfl; (apply Cell.own; (case h => (repeat (first | exact List.Mem.head _ | fail))); rfl)) | fail); (case hf => kernel_rfl); (case hr => kernel_rfl); (case hd => rfl)) | fail)
             all_goals (first | (apply d_take 4; (case hi => rfl); (case hop => first | (apply PureOp.read; apply p_move <;> rfl)); (case hf => kernel_rfl); (case hr => kernel_rfl); (case hd => rfl)) | fail)
             all_goals (first | (apply d_take 5; (case hi => rfl); (case hop => first | (apply PureOp.read; apply p_move <;> rfl)); (case hf => kernel_rfl); (case hr => kernel_rfl); (case hd => rfl)) | fail)
             all_goals (first | (apply d_take 6; (case hi => rfl); (case hop => first | (apply PureOp.read; apply p_indexAddrS; (case hx => rfl); (case hi => rfl); (case h0 => omega); (case h => omega); (case hA => first | assumption | fail))); (case hf => kernel_rfl); (case hr => kernel_rfl); (case hd => rfl)) | fail)
             all_goals (first | (apply d_take 7; (case hi => rfl); (case hop => first | (apply PureOp.read; apply p_fieldAddr <;> rfl)); (case hf => kernel_rfl); (case hr => kernel_rfl); (case hd => rfl)) | fail)
             all_goals (first | (apply d_take 8; (case hi => rfl); (case hop => first | ((apply r_load1; rfl; exact Cell.frozen hcs1)) | fail); (case hf => kernel_rfl); (case hr => kernel_rfl); (case hd => rfl)) | fail)
             all_goals (first | (apply d_take 10; (case hi => rfl); (case hop => first | (apply PureOp.read; apply p_fieldAddrB <;> rfl) | fail); (case hf => kernel_rfl); (case hr => kernel_rfl); (case hd => rfl)) | fail)
             all_goals (first | (apply d_take 11; (case hi => rfl); (case hop => first | (apply r_load1; rfl; (apply Cell.own; (case h => (repeat (first | exact List.Mem.head _ | fail))); rfl)) | fail); (case hf => kernel_rfl); (case hr => kernel_rfl); (case hd => rfl)) | fail)
             all_goals (first | (apply d_buildSlice 3; (case hi => rfl); (case hr => kernel_rfl); (case hT => infer_instance); (case hL => infer_instance); (case hz => rfl); (case hl => rfl); (case hv => (simp only [List.map_cons, List.map_nil]; repeat (first | with_reducible exact evs_nil | fail))); (case hp => (first | with_reducible exact pk_nil | fail)); (case hb => rfl); (case hd => rfl); (case hν => intro e he; first | (simp at he; simp [he]) | fail); intro b7) | fail)
             all_goals (first | (apply d_append 9 (hg := Grow.empty) (q' := fd.length) (hp := List.Perm.refl _) (hsrc := Src.ints hbk); (case hi => rfl); (case hr => kernel_rfl); (case hT => infer_instance); (case hL => infer_instance); (case hzs => rfl); (case hsz => omega); (case hs => rfl); (case hx => rfl); (case hb => omega); (case hb' => simp only [maxLen]; omega); (case hd => rfl); (case h1 => first | assumption); (case hν => intro e he; first | (simp at he; simp [he]) | fail); intro v4 n4 g4; obtain ⟨A4, c4, rfl, -, -⟩ := g4.shape) | fail)
             all_goals (first | (apply d_append 12 (hg := g4) (q' := data.length) (hp := List.Perm.refl _) (hsrc := Src.ints (hd.mono hle)); (case hi => rfl); (case hr => kernel_rfl); (case hT => infer_instance); (case hL => infer_instance); (case hzs => rfl); (case hsz => omega); (case hs => rfl); (case hx => rfl); (case hb => omega); (case hb' => simp only [maxLen]; omega); (case hd => rfl); (case h1 => first | assumption); (case hν => intro e he; first | (simp at he; simp [he]) | fail); intro v5 n5 g5; obtain ⟨A5, c5, rfl, -, -⟩ := g5.shape) | fail)
             all_goals (first | (apply d_take 13; (case hi => rfl); (case hop => first | (apply PureOp.read; apply p_build; (case hz => rfl); (case hv => (simp only [List.map_cons, List.map_nil]; repeat (first | with_reducible exact evs_nil | (apply evs_cons; (case h1 => rfl))))); (case hb => (apply bldL; repeat (first | exact bld_nil | (apply bld_cons; (case hpf => rfl); (case hc => rfl); (case hs => rfl); (case hl => rfl); (case ho => (first | ((repeat (first | with_reducible exact ov_nil | apply ov_cons | fail)); done) | fail)))))))); (case hf => kernel_rfl); (case hr => kernel_rfl); (case hd => rfl)) | fail)
             all_goals (first | (apply d_buildSlice 14; (case hi => rfl); (case hr => kernel_rfl); (case hT => infer_instance); (case hL => infer_instance); (case hz => rfl); (case hl => rfl); (case hv => (simp only [List.map_cons, List.map_nil]; repeat (first | with_reducible exact evs_nil | (apply evs_cons; (case h1 => rfl))))); (case hp => (first | (apply pk_cons; (case hc => rfl); (case hs => rfl); (case h => (first | with_reducible exact pk_nil | fail)); (case he => (first | ((repeat (first | with_reducible exact ap_nil | apply ap_cons)); done) | fail))) | fail)); (case hb => rfl); (case hd => rfl); (case hν => intro e he; first | (simp at he; simp [he]) | fail); intro b7) | fail)
             all_goals (first | (apply d_append 15 (hg := hgr) (q' := 1) (hp := PickA.perm (by repeat (first | exact PickA.here _ | apply PickA.cons | apply PickA.app))) (hsrc := Src.own (e := 78) (List.Mem.head _) rfl); (case hi => rfl); (case hr => kernel_rfl); (case hT => infer_instance); (case hL => infer_instance); (case hzs => rfl); (case hsz => omega); (case hs => rfl); (case hx => rfl); (case hb => omega); (case hb' => simp only [maxLen]; omega); (case hd => rfl); (case h1 => first | rfl | fail); (case hν => intro e he; first | (simp at he; simp [he]) | fail); intro v8 n8 hg8) | fail)
             all_goals (first | (apply d_take 16; (case hi => rfl); (case hop => first | (apply PureOp.read; apply p_assign <;> rfl)); (case hf => kernel_rfl); (case hr => kernel_rfl); (case hd => rfl)) | fail)
             all_goals (apply d_done; (case hr => kernel_rfl))
             repeat' (first | apply v_seq | apply v_region | apply v_nil | apply v_skip | apply v_blk | (apply v_pure; (case hop => first | (apply p_move <;> rfl) | (apply p_eq <;> rfl) | (apply p_assign <;> rfl) | (apply p_fieldAddrB <;> rfl) | (apply p_add; (case hx => rfl); (case hy => rfl); (case h => omega)) | fail); (case hd => rfl)) | (apply v_cond; (case hc => rfl); all_goals (intro h; (try simp only [reduceCtorEq, dec_true, dec_false, decide_eq_true_eq, decide_eq_false_iff_not, Bool.not_eq_true', Bool.not_eq_false', Option.isNone_iff_eq_none, beq_true, beq_false, beq_iff_eq, beq_eq_false_iff_ne, ne_eq, decide_eq_decide, Bool.not_eq_true, Bool.not_eq_false, Decidable.not_not] at h); first | (exfalso; omega) | skip)) | (apply v_read; (case hop => first | (apply r_load1; rfl; (apply Cell.own; (case h => (repeat (first | exact List.Mem.head _ | apply List.Mem.tail | apply List.mem_append_right))); rfl)) | fail); (case hd => rfl)) | fail)
             refine v_frz n5 (PickA.app _ (PickA.cons _ (PickA.here _))) ?_
             intro G5 hle5 hG5
             have e9 : 0 + fd.length + data.length = (fd ++ data).length := by rw [List.length_append]; omega
             rw [e9, List.nil_append, ← List.map_append] at g5
             rw [e9] at hg8
             have hbs5 := g5.ints hG5 hwf3
             refine v_drop (ν := n8 ++ [(bx, .cells [.int .i64 kind, .int .i64 no, .slice A0 data.length c0].toArray 84 (0, 0))]) (List.Sublist.append_left (List.Sublist.cons _ (List.Sublist.refl _)) _) ?_
             refine v_again rfl ⟨GH.le_trans hle hle5, k + 1, _, n8, false, _, by omega, rfl, ?_, hst, fun h => (by cases h), rfl⟩ (by simp [headI]; omega)
             exact GrL.snoc (R := FlR G5) hc1 (fun i y cs hy hc => ⟨(hc2 i y cs hy hc).1, (hc2 i y cs hy hc).2.le hle5⟩) hg8 rfl ⟨A5, c5, rfl, hbs5⟩
           · by_cases hk1 : kind = 1
             · have hkp : kp ⟨kind, no, data⟩ (fno, fd) = [(fno, fd)] := by unfold kp; rw [if_neg (not_not_intro hfe), if_neg hk2, if_pos hk1]
               rw [hkp] at hst
               repeat' (first | apply v_seq | apply v_region | apply v_nil | apply v_skip | apply v_block | (apply v_pure; (case hop => first | (apply p_move <;> rfl) | (apply p_lt <;> rfl) | (apply p_lenSlice <;> rfl) | fail); (case hd => rfl)) | (apply v_cond; (case hc => rfl); all_goals (intro h; (try simp only [reduceCtorEq, dec_true, dec_false, decide_eq_true_eq, decide_eq_false_iff_not, Bool.not_eq_true', Bool.not_eq_false', Option.isNone_iff_eq_none, beq_true, beq_false, beq_iff_eq, beq_eq_false_iff_ne, ne_eq, decide_eq_decide, Bool.not_eq_true, Bool.not_eq_false, Decidable.not_not] at h); first | (exfalso; omega) | skip)) | fail)
               refine d_start [(bx, .cells [.int .i64 kind, .int .i64 no, .slice A0 data.length c0].toArray 84 (0, 0))] (by kernel_rfl) (by kernel_rfl) (by kernel_rfl) (by intro e he; first | (simp at he; simp [he]) | fail) ?_
               all_goals (first | (apply d_take 0; (case hi => rfl); (case hop => first | (apply PureOp.read; apply p_move <;> rfl)); (case hf => kernel_rfl); (case hr => kernel_rfl); (case hd => rfl)) | fail)
               all_goals (first | (apply d_take 1; (case hi => rfl); (case hop => first | (apply PureOp.read; apply p_not <;> rfl)); (case hf => kernel_rfl); (case hr => kernel_rfl); (case hd => rfl)) | fail)
               all_goals (first | (apply d_take 2; (case hi => rfl); (case hop => first | (apply PureOp.read; apply p_move <;> rfl)); (case hf => kernel_rfl); (case hr => kernel_rfl); (case hd => rfl)) | fail)
               all_goals (try (apply d_guardB 3; (case hi => rfl); (case hgd => rfl); (case h1 => rfl); (case h2 => first | rfl); all_goals (intro h; (try simp only [reduceCtorEq, dec_true, dec_false, decide_eq_true_eq, decide_eq_false_iff_not, Bool.not_eq_true', Bool.not_eq_false', Option.isNone_iff_eq_none, beq_true, beq_false, beq_iff_eq, beq_eq_false_iff_ne, ne_eq, decide_eq_decide, Bool.not_eq_true, Bool.not_eq_false, Decidable.not_not] at h); first | done | skip)))
               all_goals (first | (apply d_pass 3; (case hi => rfl); (case hg => rfl); (case hn => rfl); (case hf => kernel_rfl); (case hr => kernel_rfl); (case hd => rfl)) | fail)
               all_goals (try (apply d_guardB 4; (case hi => rfl); (case hgd => rfl); (case h1 => rfl); (case h2 => first | rfl); all_goals (intro h; (try simp only [reduceCtorEq, dec_true, dec_false, decide_eq_true_eq, decide_eq_false_iff_not, Bool.not_eq_true', Bool.not_eq_false', Option.isNone_iff_eq_none, beq_true, beq_false, beq_iff_eq, beq_eq_false_iff_ne, ne_eq, decide_eq_decide, Bool.not_eq_true, Bool.not_eq_false, Decidable.not_not] at h); first | done | skip)))
               all_goals (first | (apply d_pass 4; (case hi => rfl); (case hg => rfl); (case hn => rfl); (case hf => kernel_rfl); (case hr => kernel_rfl); (case hd => rfl)) | fail)
               all_goals (try (apply d_guardB 5; (case hi => rfl); (case hgd => rfl); (case h1 => rfl); (case h2 => first | rfl); all_goals (intro h; (try simp only [reduceCtorEq, dec_true, dec_false, decide_eq_true_eq, decide_eq_false_iff_not, Bool.not_eq_true', Bool.not_eq_false', Option.isNone_iff_eq_none, beq_true, beq_false, beq_iff_eq, beq_eq_false_iff_ne, ne_eq, decide_eq_decide, Bool.not_eq_true, Bool.not_eq_false, Decidable.not_not] at h); first | done | skip)))
               all_goals (first | (apply d_pass 5; (case hi => rfl); (case hg => rfl); (case hn => rfl); (case hf => kernel_rfl); (case hr => kernel_rfl); (case hd => rfl)) | fail)
               all_goals (try (apply d_guardB 6; (case hi => rfl); (case hgd => rfl); (case h1 => rfl); (case h2 => first | rfl); all_goals (intro h; (try simp only [reduceCtorEq, dec_true, dec_false, decide_eq_true_eq, decide_eq_false_iff_not, Bool.not_eq_true', Bool.not_eq_false', Option.isNone_iff_eq_none, beq_true, beq_false, beq_iff_eq, beq_eq_false_iff_ne, ne_eq, decide_eq_decide, Bool.not_eq_true, Bool.not_eq_false, Decidable.not_not] at h); first | done | skip)))
               all_goals (first | (apply d_pass 6; (case hi => rfl); (case hg => rfl); (case hn => rfl); (case hf => kernel_rfl); (case hr => kernel_rfl); (case hd => rfl)) | fail)
               all_goals (try (apply d_guardB 7; (case hi => rfl); (case hgd => rfl); (case h1 => rfl); (case h2 => first | rfl); all_goals (intro h; (try simp only [reduceCtorEq, dec_true, dec_false, decide_eq_true_eq, decide_eq_false_iff_not, Bool.not_eq_true', Bool.not_eq_false', Option.isNone_iff_eq_none, beq_true, beq_false, beq_iff_eq, beq_eq_false_iff_ne, ne_eq, decide_eq_decide, Bool.not_eq_true, Bool.not_eq_false, Decidable.not_not] at h); first | done | skip)))
               all_goals (first | (apply d_pass 7; (case hi => rfl); (case hg => rfl); (case hn => rfl); (case hf => kernel_rfl); (case hr => kernel_rfl); (case hd => rfl)) | fail)
               all_goals (try (apply d_guardB 8; (case hi => rfl); (case hgd => rfl); (case h1 => rfl); (case h2 => first | rfl); all_goals (intro h; (try simp only [reduceCtorEq, dec_true, dec_false, decide_eq_true_eq, decide_eq_false_iff_not, Bool.not_eq_true', Bool.not_eq_false', Option.isNone_iff_eq_none, beq_true, beq_false, beq_iff_eq, beq_eq_false_iff_ne, ne_eq, decide_eq_decide, Bool.not_eq_true, Bool.not_eq_false, Decidable.not_not] at h); first | done | skip)))
               all_goals (first | (apply d_pass 8; (case hi => rfl); (case hg => rfl); (case hn => rfl); (case hf => kernel_rfl); (case hr => kernel_rfl); (case hd => rfl)) | fail)
               all_goals (try (apply d_guardB 9; (case hi => rfl); (case hgd => rfl); (case h1 => rfl); (case h2 => first | rfl); all_goals (intro h; (try simp only [reduceCtorEq, dec_true, dec_false, decide_eq_true_eq, decide_eq_false_iff_not, Bool.not_eq_true', Bool.not_eq_false', Option.isNone_iff_eq_none, beq_true, beq_false, beq_iff_eq, beq_eq_false_iff_ne, ne_eq, decide_eq_decide, Bool.not_eq_true, Bool.not_eq_false, Decidable.not_not] at h); first | done | skip)))
               all_goals (first | (apply d_pass 9; (case hi => rfl); (case hg => rfl); (case hn => rfl); (case hf => kernel_rfl); (case hr => kernel_rfl); (case hd => rfl)) | fail)
               all_goals (try (apply d_guardB 10; (case hi => rfl); (case hgd => rfl); (case h1 => rfl); (case h2 => first | rfl); all_goals (intro h; (try simp only [reduceCtorEq, dec_true, dec_false, decide_eq_true_eq, decide_eq_false_iff_not, Bool.not_eq_true', Bool.not_eq_false', Option.isNone_iff_eq_none, beq_true, beq_false, beq_iff_eq, beq_eq_false_iff_ne, ne_eq, decide_eq_decide, Bool.not_eq_true, Bool.not_eq_false, Decidable.not_not] at h); first | done | skip)))
               all_goals (first | (apply d_pass 10; (case hi => rfl); (case hg => rfl); (case hn => rfl); (case hf => kernel_rfl); (case hr => kernel_rfl); (case hd => rfl)) | fail)
               all_goals (first | (apply d_take 11; (case hi => rfl); (case hop => first | (apply PureOp.read; apply p_pickF <;> rfl) | fail); (case hf => kernel_rfl); (case hr => kernel_rfl); (case hd => rfl)) | fail)
               all_goals (apply d_done; (case hr => kernel_rfl))
               repeat' (first | apply v_seq | apply v_region | apply v_nil | apply v_skip | apply v_blk | (apply v_pure; (case hop => first | (apply p_move <;> rfl) | (apply p_eq <;> rfl) | (apply p_ne <;> rfl) | (apply p_assign <;> rfl) | (apply p_fieldAddrB <;> rfl) | (apply p_add; (case hx => rfl); (case hy => rfl); (case h => omega)) | (apply p_indexAddrS; (case hx => rfl); (case hi => rfl); (case h0 => omega); (case h => omega); (case hA => first | assumption | fail)) | fail); (case hd => rfl)) | (apply v_condF; (case hc => rfl)) | (apply v_cond; (case hc => rfl); all_goals (intro h; (try simp only [reduceCtorEq, dec_true, dec_false, decide_eq_true_eq, decide_eq_false_iff_not, Bool.not_eq_true', Bool.not_eq_false', Option.isNone_iff_eq_none, beq_true, beq_false, beq_iff_eq, beq_eq_false_iff_ne, ne_eq, decide_eq_decide, Bool.not_eq_true, Bool.not_eq_false, Decidable.not_not] at h); first | (exfalso; omega) | skip)) | (apply v_append (e := 78) (hg := hgr) (m' := 1) (hp := PickA.perm (by repeat (first | exact PickA.here _ | apply PickA.cons | fail))) (hsrc := Src.own (List.Mem.head _) rfl); (case hzs => rfl); (case hsz => omega); (case hs => rfl); (case hx => rfl); (case hb => omega); (case hb' => simp only [maxLen]; omega); (case hd => rfl); (case h1 => rfl); intro v8 n8 hg8; obtain ⟨A8, c8, rfl, -, -⟩ := hg8.shape) | (apply v_read; (case hop => first | (apply r_loadN; rfl; exact CellsAt.frozen hck; rfl)); (case hd => rfl)) | (apply v_read; (case hop => first | (apply r_load1; rfl; (apply Cell.own; (case h => (repeat (first | exact List.Mem.head _ | apply List.mem_append_right))); rfl)) | fail); (case hd => rfl)) | (apply v_buildSlice; (case hz => rfl); (case hi => rfl); (case hv => (simp only [List.map_cons, List.map_nil]; repeat (first | with_reducible exact evs_nil | (apply evs_cons; (case h1 => rfl))))); (case hp => (first | (apply pk_cons; (case hc => rfl); (case hs => rfl); (case h => (first | with_reducible exact pk_nil | fail)); (case he => (first | ((repeat (first | with_reducible exact ap_nil | apply ap_cons)); done) | fail))) | fail)); (case hb => rfl); (case hd => rfl); intro b) | fail)
               refine v_drop (ν := n8 ++ [(bx, .cells [.int .i64 kind, .int .i64 no, .slice A0 data.length c0].toArray 84 (0, 0))]) (List.Sublist.append_left (List.Sublist.cons _ (List.Sublist.refl _)) _) ?_
               refine v_again rfl ⟨hle, k + 1, _, n8, false, _, by omega, rfl, ?_, hst, fun h => (by cases h), rfl⟩ (by simp [headI]; omega)
               exact hlem _ _ _ _ hg8 rfl ⟨dA k, dc k, rfl, hbk⟩
             · have hkp : kp ⟨kind, no, data⟩ (fno, fd) = [] := by unfold kp; rw [if_neg (not_not_intro hfe), if_neg hk2, if_neg hk1]
               rw [hkp, List.append_nil] at hst
               repeat' (first | apply v_seq | apply v_region | apply v_nil | apply v_skip | apply v_block | (apply v_pure; (case hop => first | (apply p_move <;> rfl) | (apply p_lt <;> rfl) | (apply p_lenSlice <;> rfl) | fail); (case hd => rfl)) | (apply v_cond; (case hc => rfl); all_goals (intro h; (try simp only [reduceCtorEq, dec_true, dec_false, decide_eq_true_eq, decide_eq_false_iff_not, Bool.not_eq_true', Bool.not_eq_false', Option.isNone_iff_eq_none, beq_true, beq_false, beq_iff_eq, beq_eq_false_iff_ne, ne_eq, decide_eq_decide, Bool.not_eq_true, Bool.not_eq_false, Decidable.not_not] at h); first | (exfalso; omega) | skip)) | fail)
               refine d_start [(bx, .cells [.int .i64 kind, .int .i64 no, .slice A0 data.length c0].toArray 84 (0, 0))] (by kernel_rfl) (by kernel_rfl) (by kernel_rfl) (by intro e he; first | (simp at he; simp [he]) | fail) ?_
               all_goals (first | (apply d_take 0; (case hi => rfl); (case hop => first | (apply PureOp.read; apply p_move <;> rfl)); (case hf => kernel_rfl); (case hr => kernel_rfl); (case hd => rfl)) | fail)
               all_goals (first | (apply d_take 1; (case hi => rfl); (case hop => first | (apply PureOp.read; apply p_not <;> rfl)); (case hf => kernel_rfl); (case hr => kernel_rfl); (case hd => rfl)) | fail)
               all_goals (first | (apply d_take 2; (case hi => rfl); (case hop => first | (apply PureOp.read; apply p_move <;> rfl)); (case hf => kernel_rfl); (case hr => kernel_rfl); (case hd => rfl)) | fail)
               all_goals (try (apply d_guardB 3; (case hi => rfl); (case hgd => rfl); (case h1 => rfl); (case h2 => first | rfl); all_goals (intro h; (try simp only [reduceCtorEq, dec_true, dec_false, decide_eq_true_eq, decide_eq_false_iff_not, Bool.not_eq_true', Bool.not_eq_false', Option.isNone_iff_eq_none, beq_true, beq_false, beq_iff_eq, beq_eq_false_iff_ne, ne_eq, decide_eq_decide, Bool.not_eq_true, Bool.not_eq_false, Decidable.not_not] at h); first | done | skip)))
               all_goals (first | (apply d_pass 3; (case hi => rfl); (case hg => rfl); (case hn => rfl); (case hf => kernel_rfl); (case hr => kernel_rfl); (case hd => rfl)) | fail)
               all_goals (try (apply d_guardB 4; (case hi => rfl); (case hgd => rfl); (case h1 => rfl); (case h2 => first | rfl); all_goals (intro h; (try simp only [reduceCtorEq, dec_true, dec_false, decide_eq_true_eq, decide_eq_false_iff_not, Bool.not_eq_true', Bool.not_eq_false', Option.isNone_iff_eq_none, beq_true, beq_false, beq_iff_eq, beq_eq_false_iff_ne, ne_eq, decide_eq_decide, Bool.not_eq_true, Bool.not_eq_false, Decidable.not_not] at h); first | done | skip)))
               all_goals (first | (apply d_pass 4; (case hi => rfl); (case hg => rfl); (case hn => rfl); (case hf => kernel_rfl); (case hr => kernel_rfl); (case hd => rfl)) | fail)
               all_goals (try (apply d_guardB 5; (case hi => rfl); (case hgd => rfl); (case h1 => rfl); (case h2 => first | rfl); all_goals (intro h; (try simp only [reduceCtorEq, dec_true, dec_false, decide_eq_true_eq, decide_eq_false_iff_not, Bool.not_eq_true', Bool.not_eq_false', Option.isNone_iff_eq_none, beq_true, beq_false, beq_iff_eq, beq_eq_false_iff_ne, ne_eq, decide_eq_decide, Bool.not_eq_true, Bool.not_eq_false, Decidable.not_not] at h); first | done | skip)))
               all_goals (first | (apply d_pass 5; (case hi => rfl); (case hg => rfl); (case hn => rfl); (case hf => kernel_rfl); (case hr => kernel_rfl); (case hd => rfl)) | fail)
               all_goals (try (apply d_guardB 6; (case hi => rfl); (case hgd => rfl); (case h1 => rfl); (case h2 => first | rfl); all_goals (intro h; (try simp only [reduceCtorEq, dec_true, dec_false, decide_eq_true_eq, decide_eq_false_iff_not, Bool.not_eq_true', Bool.not_eq_false', Option.isNone_iff_eq_none, beq_true, beq_false, beq_iff_eq, beq_eq_false_iff_ne, ne_eq, decide_eq_decide, Bool.not_eq_true, Bool.not_eq_false, Decidable.not_not] at h); first | done | skip)))
               all_goals (first | (apply d_pass 6; (case hi => rfl); (case hg => rfl); (case hn => rfl); (case hf => kernel_rfl); (case hr => kernel_rfl); (case hd => rfl)) | fail)
               all_goals (try (apply d_guardB 7; (case hi => rfl); (case hgd => rfl); (case h1 => rfl); (case h2 => first | rfl); all_goals (intro h; (try simp only [reduceCtorEq, dec_true, dec_false, decide_eq_true_eq, decide_eq_false_iff_not, Bool.not_eq_true', Bool.not_eq_false', Option.isNone_iff_eq_none, beq_true, beq_false, beq_iff_eq, beq_eq_false_iff_ne, ne_eq, decide_eq_decide, Bool.not_eq_true, Bool.not_eq_false, Decidable.not_not] at h); first | done | skip)))
               all_goals (first | (apply d_pass 7; (case hi => rfl); (case hg => rfl); (case hn => rfl); (case hf => kernel_rfl); (case hr => kernel_rfl); (case hd => rfl)) | fail)
               all_goals (try (apply d_guardB 8; (case hi => rfl); (case hgd => rfl); (case h1 => rfl); (case h2 => first | rfl); all_goals (intro h; (try simp only [reduceCtorEq, dec_true, dec_false, decide_eq_true_eq, decide_eq_false_iff_not, Bool.not_eq_true', Bool.not_eq_false', Option.isNone_iff_eq_none, beq_true, beq_false, beq_iff_eq, beq_eq_false_iff_ne, ne_eq, decide_eq_decide, Bool.not_eq_true, Bool.not_eq_false, Decidable.not_not] at h); first | done | skip)))
               all_goals (first | (apply d_pass 8; (case hi => rfl); (case hg => rfl); (case hn => rfl); (case hf => kernel_rfl); (case hr => kernel_rfl); (case hd => rfl)) | fail)
               all_goals (try (apply d_guardB 9; (case hi => rfl); (case hgd => rfl); (case h1 => rfl); (case h2 => first | rfl); all_goals (intro h; (try simp only [reduceCtorEq, dec_true, dec_false, decide_eq_true_eq, decide_eq_false_iff_not, Bool.not_eq_true', Bool.not_eq_false', Option.isNone_iff_eq_none, beq_true, beq_false, beq_iff_eq, beq_eq_false_iff_ne, ne_eq, decide_eq_decide, Bool.not_eq_true, Bool.not_eq_false, Decidable.not_not] at h); first | done | skip)))
               all_goals (first | (apply d_pass 9; (case hi => rfl); (case hg => rfl); (case hn => rfl); (case hf => kernel_rfl); (case hr => kernel_rfl); (case hd => rfl)) | fail)
               all_goals (try (apply d_guardB 10; (case hi => rfl); (case hgd => rfl); (case h1 => rfl); (case h2 => first | rfl); all_goals (intro h; (try simp only [reduceCtorEq, dec_true, dec_false, decide_eq_true_eq, decide_eq_false_iff_not, Bool.not_eq_true', Bool.not_eq_false', Option.isNone_iff_eq_none, beq_true, beq_false, beq_iff_eq, beq_eq_false_iff_ne, ne_eq, decide_eq_decide, Bool.not_eq_true, Bool.not_eq_false, Decidable.not_not] at h); first | done | skip)))
               all_goals (first | (apply d_pass 10; (case hi => rfl); (case hg => rfl); (case hn => rfl); (case hf => kernel_rfl); (case hr => kernel_rfl); (case hd => rfl)) | fail)
               all_goals (first | (apply d_take 11; (case hi => rfl); (case hop => first | (apply PureOp.read; apply p_pickF <;> rfl) | fail); (case hf => kernel_rfl); (case hr => kernel_rfl); (case hd => rfl)) | fail)
               all_goals (apply d_done; (case hr => kernel_rfl))
               repeat' (first | apply v_seq | apply v_region | apply v_nil | apply v_skip | apply v_blk | (apply v_pure; (case hop => first | (apply p_move <;> rfl) | (apply p_eq <;> rfl) | (apply p_ne <;> rfl) | (apply p_assign <;> rfl) | (apply p_fieldAddrB <;> rfl) | (apply p_add; (case hx => rfl); (case hy => rfl); (case h => omega)) | fail); (case hd => rfl)) | (apply v_condF; (case hc => rfl)) | (apply v_cond; (case hc => rfl); all_goals (intro h; (try simp only [reduceCtorEq, dec_true, dec_false, decide_eq_true_eq, decide_eq_false_iff_not, Bool.not_eq_true', Bool.not_eq_false', Option.isNone_iff_eq_none, beq_true, beq_false, beq_iff_eq, beq_eq_false_iff_ne, ne_eq, decide_eq_decide, Bool.not_eq_true, Bool.not_eq_false, Decidable.not_not] at h); first | (exfalso; omega) | skip)) | (apply v_read; (case hop => first | (apply r_load1; rfl; (apply Cell.own; (case h => (repeat (first | exact List.Mem.head _ | apply List.mem_append_right))); rfl)) | fail); (case hd => rfl)) | fail)
               exact v_again rfl ⟨hle, k + 1, _, ν, false, _, by omega, rfl, hg, hst, fun h => (by cases h), rfl⟩ (by simp [headI]; omega)
         · have hkp : kp ⟨kind, no, data⟩ (fno, fd) = [(fno, fd)] := by unfold kp; rw [if_pos hfe]
           rw [hkp] at hst
           repeat' (first | apply v_seq | apply v_region | apply v_nil | apply v_skip | apply v_block | (apply v_pure; (case hop => first | (apply p_move <;> rfl) | (apply p_lt <;> rfl) | (apply p_lenSlice <;> rfl) | fail); (case hd => rfl)) | (apply v_cond; (case hc => rfl); all_goals (intro h; (try simp only [reduceCtorEq, dec_true, dec_false, decide_eq_true_eq, decide_eq_false_iff_not, Bool.not_eq_true', Bool.not_eq_false', Option.isNone_iff_eq_none, beq_true, beq_false, beq_iff_eq, beq_eq_false_iff_ne, ne_eq, decide_eq_decide, Bool.not_eq_true, Bool.not_eq_false, Decidable.not_not] at h); first | (exfalso; omega) | skip)) | fail)
           refine d_start [(bx, .cells [.int .i64 kind, .int .i64 no, .slice A0 data.length c0].toArray 84 (0, 0))] (by kernel_rfl) (by kernel_rfl) (by kernel_rfl) (by intro e he; first | (simp at he; simp [he]) | fail) ?_
           all_goals (first | (apply d_take 0; (case hi => rfl); (case hop => first | (apply PureOp.read; apply p_move <;> rfl)); (case hf => kernel_rfl); (case hr => kernel_rfl); (case hd => rfl)) | fail)
           all_goals (first | (apply d_take 1; (case hi => rfl); (case hop => first | (apply PureOp.read; apply p_not <;> rfl)); (case hf => kernel_rfl); (case hr => kernel_rfl); (case hd => rfl)) | fail)
           all_goals (first | (apply d_take 2; (case hi => rfl); (case hop => first | (apply PureOp.read; apply p_move <;> rfl)); (case hf => kernel_rfl); (case hr => kernel_rfl); (case hd => rfl)) | fail)
           all_goals (try (apply d_guardB 3; (case hi => rfl); (case hgd => rfl); (case h1 => rfl); (case h2 => first | rfl); all_goals (intro h; (try simp only [reduceCtorEq, dec_true, dec_false, decide_eq_true_eq, decide_eq_false_iff_not, Bool.not_eq_true', Bool.not_eq_false', Option.isNone_iff_eq_none, beq_true, beq_false, beq_iff_eq, beq_eq_false_iff_ne, ne_eq, decide_eq_decide, Bool.not_eq_true, Bool.not_eq_false, Decidable.not_not] at h); first | done | skip)))
           all_goals (first | (apply d_pass 3; (case hi => rfl); (case hg => rfl); (case hn => rfl); (case hf => kernel_rfl); (case hr => kernel_rfl); (case hd => rfl)) | fail)
           all_goals (try (apply d_guardB 4; (case hi => rfl); (case hgd => rfl); (case h1 => rfl); (case h2 => first | rfl); all_goals (intro h; (try simp only [reduceCtorEq, dec_true, dec_false, decide_eq_true_eq, decide_eq_false_iff_not, Bool.not_eq_true', Bool.not_eq_false', Option.isNone_iff_eq_none, beq_true, beq_false, beq_iff_eq, beq_eq_false_iff_ne, ne_eq, decide_eq_decide, Bool.not_eq_true, Bool.not_eq_false, Decidable.not_not] at h); first | done | skip)))
           all_goals (first | (apply d_pass 4; (case hi => rfl); (case hg => rfl); (case hn => rfl); (case hf => kernel_rfl); (case hr => kernel_rfl); (case hd => rfl)) | fail)
           all_goals (try (apply d_guardB 5; (case hi => rfl); (case hgd => rfl); (case h1 => rfl); (case h2 => first | rfl); all_goals (intro h; (try simp only [reduceCtorEq, dec_true, dec_false, decide_eq_true_eq, decide_eq_false_iff_not, Bool.not_eq_true', Bool.not_eq_false', Option.isNone_iff_eq_none, beq_true, beq_false, beq_iff_eq, beq_eq_false_iff_ne, ne_eq, decide_eq_decide, Bool.not_eq_true, Bool.not_eq_false, Decidable.not_not] at h); first | done | skip)))
           all_goals (first | (apply d_pass 5; (case hi => rfl); (case hg => rfl); (case hn => rfl); (case hf => kernel_rfl); (case hr => kernel_rfl); (case hd => rfl)) | fail)
           all_goals (try (apply d_guardB 6; (case hi => rfl); (case hgd => rfl); (case h1 => rfl); (case h2 => first | rfl); all_goals (intro h; (try simp only [reduceCtorEq, dec_true, dec_false, decide_eq_true_eq, decide_eq_false_iff_not, Bool.not_eq_true', Bool.not_eq_false', Option.isNone_iff_eq_none, beq_true, beq_false, beq_iff_eq, beq_eq_false_iff_ne, ne_eq, decide_eq_decide, Bool.not_eq_true, Bool.not_eq_false, Decidable.not_not] at h); first | done | skip)))
           all_goals (first | (apply d_pass 6; (case hi => rfl); (case hg => rfl); (case hn => rfl); (case hf => kernel_rfl); (case hr => kernel_rfl); (case hd => rfl)) | fail)
           all_goals (try (apply d_guardB 7; (case hi => rfl); (case hgd => rfl); (case h1 => rfl); (case h2 => first | rfl); all_goals (intro h; (try simp only [reduceCtorEq, dec_true, dec_false, decide_eq_true_eq, decide_eq_false_iff_not, Bool.not_eq_true', Bool.not_eq_false', Option.isNone_iff_eq_none, beq_true, beq_false, beq_iff_eq, beq_eq_false_iff_ne, ne_eq, decide_eq_decide, Bool.not_eq_true, Bool.not_eq_false, Decidable.not_not] at h); first | done | skip)))
           all_goals (first | (apply d_pass 7; (case hi => rfl); (case hg => rfl); (case hn => rfl); (case hf => kernel_rfl); (case hr => kernel_rfl); (case hd => rfl)) | fail)
           all_goals (try (apply d_guardB 8; (case hi => rfl); (case hgd => rfl); (case h1 => rfl); (case h2 => first | rfl); all_goals (intro h; (try simp only [reduceCtorEq, dec_true, dec_false, decide_eq_true_eq, decide_eq_false_iff_not, Bool.not_eq_true', Bool.not_eq_false', Option.isNone_iff_eq_none, beq_true, beq_false, beq_iff_eq, beq_eq_false_iff_ne, ne_eq, decide_eq_decide, Bool.not_eq_true, Bool.not_eq_false, Decidable.not_not] at h); first | done | skip)))
           all_goals (first | (apply d_pass 8; (case hi => rfl); (case hg => rfl); (case hn => rfl); (case hf => kernel_rfl); (case hr => kernel_rfl); (case hd => rfl)) | fail)
           all_goals (try (apply d_guardB 9; (case hi => rfl); (case hgd => rfl); (case h1 => rfl); (case h2 => first | rfl); all_goals (intro h; (try simp only [reduceCtorEq, dec_true, dec_false, decide_eq_true_eq, decide_eq_false_iff_not, Bool.not_eq_true', Bool.not_eq_false', Option.isNone_iff_eq_none, beq_true, beq_false, beq_iff_eq, beq_eq_false_iff_ne, ne_eq, decide_eq_decide, Bool.not_eq_true, Bool.not_eq_false, Decidable.not_not] at h); first | done | skip)))
           all_goals (first | (apply d_pass 9; (case hi => rfl); (case hg => rfl); (case hn => rfl); (case hf => kernel_rfl); (case hr => kernel_rfl); (case hd => rfl)) | fail)
           all_goals (try (apply d_guardB 10; (case hi => rfl); (case hgd => rfl); (case h1 => rfl); (case h2 => first | rfl); all_goals (intro h; (try simp only [reduceCtorEq, dec_true, dec_false, decide_eq_true_eq, decide_eq_false_iff_not, Bool.not_eq_true', Bool.not_eq_false', Option.isNone_iff_eq_none, beq_true, beq_false, beq_iff_eq, beq_eq_false_iff_ne, ne_eq, decide_eq_decide, Bool.not_eq_true, Bool.not_eq_false, Decidable.not_not] at h); first | done | skip)))
           all_goals (first | (apply d_pass 10; (case hi => rfl); (case hg => rfl); (case hn => rfl); (case hf => kernel_rfl); (case hr => kernel_rfl); (case hd => rfl)) | fail)
           all_goals (first | (apply d_take 11; (case hi => rfl); (case hop => first | (apply PureOp.read; apply p_pickF <;> rfl) | fail); (case hf => kernel_rfl); (case hr => kernel_rfl); (case hd => rfl)) | fail)
           all_goals (apply d_done; (case hr => kernel_rfl))
           repeat' (first | apply v_seq | apply v_region | apply v_nil | apply v_skip | (apply v_exit; (case hp => rfl)) | (apply v_pure; (case hop => first | (apply p_move <;> rfl) | (apply p_ne <;> rfl) | (apply p_assign <;> rfl) | (apply p_add; (case hx => rfl); (case hy => rfl); (case h => omega)) | (apply p_indexAddrS; (case hx => rfl); (case hi => rfl); (case h0 => omega); (case h => omega); (case hA => first | assumption | fail)) | fail); (case hd => rfl)) | (apply v_condF; (case hc => rfl)) | (apply v_cond; (case hc => rfl); all_goals (intro h; (try simp only [reduceCtorEq, dec_true, dec_false, decide_eq_true_eq, decide_eq_false_iff_not, Bool.not_eq_true', Bool.not_eq_false', Option.isNone_iff_eq_none, beq_true, beq_false, beq_iff_eq, beq_eq_false_iff_ne, ne_eq, decide_eq_decide, Bool.not_eq_true, Bool.not_eq_false, Decidable.not_not] at h); first | (exfalso; omega) | skip)) | (apply v_append (e := 78) (hg := hgr) (m' := 1) (hp := PickA.perm (by repeat (first | exact PickA.here _ | apply PickA.cons | fail))) (hsrc := Src.own (List.Mem.head _) rfl); (case hzs => rfl); (case hsz => omega); (case hs => rfl); (case hx => rfl); (case hb => omega); (case hb' => simp only [maxLen]; omega); (case hd => rfl); (case h1 => rfl); intro v8 n8 hg8; obtain ⟨A8, c8, rfl, -, -⟩ := hg8.shape) | (apply v_read; (case hop => first | (apply r_loadN; rfl; exact CellsAt.frozen hck; rfl)); (case hd => rfl)) | (apply v_buildSlice; (case hz => rfl); (case hi => rfl); (case hv => (simp only [List.map_cons, List.map_nil]; repeat (first | with_reducible exact evs_nil | (apply evs_cons; (case h1 => rfl))))); (case hp => (first | (apply pk_cons; (case hc => rfl); (case hs => rfl); (case h => (first | with_reducible exact pk_nil | fail)); (case he => (first | ((repeat (first | with_reducible exact ap_nil | apply ap_cons)); done) | fail))) | fail)); (case hb => rfl); (case hd => rfl); intro b) | fail)
           refine v_drop (ν := n8 ++ [(bx, .cells [.int .i64 kind, .int .i64 no, .slice A0 data.length c0].toArray 84 (0, 0))]) (List.Sublist.append_left (List.Sublist.cons _ (List.Sublist.refl _)) _) ?_
           refine v_again rfl ⟨hle, k + 1, _, n8, false, _, by omega, rfl, ?_, hst, fun h => (by cases h), rfl⟩ (by simp [headI]; omega)
           exact hlem _ _ _ _ hg8 rfl ⟨dA k, dc k, rfl, hbk⟩
     · have hde : R.drop k = [] := List.drop_eq_nil_of_le (by omega)
       rw [hde] at hpre
       cases ins with
       | true =>
         have hst : pre ++ [(no, [])] = doneL ⟨kind, no, data⟩ R i0 := hpre
         repeat' (first | apply v_seq | apply v_region | apply v_nil | (apply v_exit; (case hp => rfl)) | (apply v_pure; (case hop => first | (apply p_move <;> rfl) | (apply p_lt <;> rfl) | (apply p_assign <;> rfl) | (apply p_not <;> rfl) | (apply p_lenSlice <;> rfl) | (apply p_fieldAddrB <;> rfl) | (apply p_build; (case hz => rfl); (case hv => (simp only [List.map_cons, List.map_nil]; repeat (first | with_reducible exact evs_nil | (apply evs_cons; (case h1 => rfl))))); (case hb => (apply bldL; repeat (first | exact bld_nil | (apply bld_cons; (case hpf => rfl); (case hc => rfl); (case hs => rfl); (case hl => rfl); (case ho => (first | ((repeat (first | with_reducible exact ov_nil | apply ov_cons | fail)); done) | fail))))))) | fail); (case hd => rfl)) | (apply v_condT; (case hc => rfl)) | (apply v_cond; (case hc => rfl); all_goals (intro h; (try simp only [reduceCtorEq, dec_true, dec_false, decide_eq_true_eq, decide_eq_false_iff_not, Bool.not_eq_true', Bool.not_eq_false', Option.isNone_iff_eq_none, beq_true, beq_false, beq_iff_eq, beq_eq_false_iff_ne, ne_eq, decide_eq_decide, Bool.not_eq_true, Bool.not_eq_false, Decidable.not_not] at h); first | (exfalso; omega) | skip)) | (apply v_append (e := 78) (hg := hgr) (m' := 1) (hp := PickA.perm (by repeat (first | exact PickA.here _ | apply PickA.cons | fail))) (hsrc := Src.own (List.Mem.head _) rfl); (case hzs => rfl); (case hsz => omega); (case hs => rfl); (case hx => rfl); (case hb => omega); (case hb' => simp only [maxLen]; omega); (case hd => rfl); (case h1 => rfl); intro v8 n8 hg8; obtain ⟨A8, c8, rfl, -, -⟩ := hg8.shape) | (apply v_read; (case hop => first | (apply r_load1; rfl; (apply Cell.own; (case h => (repeat (first | exact List.Mem.head _ | apply List.mem_append_right))); rfl)) | fail); (case hd => rfl)) | (apply v_buildSlice; (case hz => rfl); (case hi => rfl); (case hv => (simp only [List.map_cons, List.map_nil]; repeat (first | with_reducible exact evs_nil | (apply evs_cons; (case h1 => rfl))))); (case hp => (first | (apply pk_cons; (case hc => rfl); (case hs => rfl); (case h => (first | with_reducible exact pk_nil | fail)); (case he => (first | ((repeat (first | with_reducible exact ap_nil | apply ap_cons)); done) | fail))) | fail)); (case hb => rfl); (case hd => rfl); intro b) | fail)
         have h8 := hlem _ _ (no, []) _ hg8 rfl ⟨none, 0, rfl, Sl.nil⟩
         rw [hst] at h8
         refine v_frz n8 (PickA.here _) ?_
         intro G5 hle5 hG5
         refine v_ret [] (outsA1 rfl rfl) (by repeat (first | exact List.nil_sublist _ | fail)) ?_
         exact ⟨GH.le_trans hle hle5, (h8.le fun _ _ h => h.le hle5).sl hG5, rfl⟩
       | false =>
         have hst : pre = doneL ⟨kind, no, data⟩ R i0 := by rw [← hpre]; simp [doneL]
         repeat' (first | apply v_seq | apply v_region | apply v_nil | apply v_skip | (apply v_exit; (case hp => rfl)) | (apply v_pure; (case hop => first | (apply p_move <;> rfl) | (apply p_lt <;> rfl) | (apply p_assign <;> rfl) | (apply p_not <;> rfl) | (apply p_lenSlice <;> rfl) | fail); (case hd => rfl)) | (apply v_condF; (case hc => rfl)) | (apply v_cond; (case hc => rfl); all_goals (intro h; (try simp only [reduceCtorEq, dec_true, dec_false, decide_eq_true_eq, decide_eq_false_iff_not, Bool.not_eq_true', Bool.not_eq_false', Option.isNone_iff_eq_none, beq_true, beq_false, beq_iff_eq, beq_eq_false_iff_ne, ne_eq, decide_eq_decide, Bool.not_eq_true, Bool.not_eq_false, Decidable.not_not] at h); first | (exfalso; omega) | skip)) | fail)
         rw [← hst]
         refine v_frz ν (PickA.here _) ?_
         intro G5 hle5 hG5
         refine v_ret [] (outsA1 rfl rfl) (by repeat (first | exact List.nil_sublist _ | fail)) ?_
         exact ⟨GH.le_trans hle hle5, (hg.le fun _ _ h => h.le hle5).sl hG5, rfl⟩)
end Go.Proofs.Ytgflmkhfachlcaa
/-
  disk (layer 18): the reference: files behind some things; equal lists.
-/
set_option linter.unusedSimpArgs false
set_option linter.unusedVariables false
namespace Go.Proofs.Ytgflmkhfachlcaa
open Go.Vx Go.ChangeShapes Go.WideShapes Go.ChangeAt Go.RowKit
theorem CellsAt.up {G G' : GH} {μ μ' : OH} {a : Addr} {vs : List Value} (h : CellsAt G μ a vs) (hG : GH.le G G') (hμ : ∀ e ∈ μ, e ∈ μ') : CellsAt G' μ' a vs := fun j v hv w hw => h j v hv w ⟨fun b o hb => hw.g b o (hG b o hb), fun b o hb => hw.own b o (hμ _ hb)⟩
/-- What is buffered can be read, of blocks that are ours or not. -/
def OpsAt (G : GH) (μ : OH) (A : Option Addr) (l : List Dop) (dA : Nat → Option Addr) (dc : Nat → Nat) : Prop := (0 < l.length → A.isSome = true) ∧ (∀ i (h : i < l.length), CellsAt G μ ((adr A).add (i * 3)) [.int .i64 l[i].kind, .int .i64 l[i].no, .slice (dA i) l[i].data.length (dc i)]) ∧ ∀ i (h : i < l.length), Bs G (.slice (dA i) l[i].data.length (dc i)) l[i].data
theorem opsAtG {G : GH} {v : Value} {l : List Dop} (h : Ops G v l) : ∃ A c dA dc, v = .slice A l.length c ∧ l.length ≤ c ∧ c ≤ maxLen ∧ OpsAt G [] A l dA dc := by
  obtain ⟨A, c, dA, dc, h1, h2, h3, h4, h5, h6⟩ := opOpen h
  exact ⟨A, c, dA, dc, h1, h2, h3, h4, fun i hi => CellsAt.frozen (h5 i hi), h6⟩
theorem doneR_ris {R : List Fl} {x : Dop} (h : Ris R) : Ris (doneR R x) := doneL_ris h fun e => (of_decide_eq_true e).2
theorem doneR_len {R : List Fl} {x : Dop} : (doneR R x).length ≤ R.length + 1 := doneL_len
theorem doneL_bd {x : Dop} {N : Nat} : ∀ {R : List Fl} {ins : Bool}, (∀ f ∈ R, f.2.length ≤ N) → ∀ f ∈ doneL x R ins, f.2.length ≤ N + x.data.length
  | [], ins, h, f, hf => by
    unfold doneL at hf
    split at hf
    · rw [List.mem_singleton] at hf; subst hf; simp
    · cases hf
  | a :: R, ins, h, f, hf => by
    have hk : f ∈ kp x a → f.2.length ≤ N + x.data.length := fun hk => by
      have ha := h a (by simp)
      unfold kp at hk
      split at hk
      · rw [List.mem_singleton] at hk; subst hk; omega
      · split at hk
        · rw [List.mem_singleton] at hk; subst hk; simp only [List.length_append]; omega
        · split at hk
          · rw [List.mem_singleton] at hk; subst hk; omega
          · cases hk
    have hR : ∀ f ∈ R, f.2.length ≤ N := fun f hf => h f (List.mem_cons_of_mem _ hf)
    unfold doneL at hf
    split at hf
    · rcases List.mem_cons.1 hf with rfl | hf
      · simp
      · rcases List.mem_append.1 hf with hf | hf
        · exact hk hf
        · exact doneL_bd hR f hf
    · rcases List.mem_append.1 hf with hf | hf
      · exact hk hf
      · exact doneL_bd hR f hf
theorem all_s {G : GH} {μ : OH} {R : List Fl} {rv : Value} {A : Option Addr} {c n N : Nat} {l : List Dop} {dA : Nat → Option Addr} {dc : Nat → Nat} (hs : Fls G rv R) (hr : Ris R) (hO : OpsAt G μ A l dA dc) (hn : n ≤ l.length) (hc : n ≤ c) (hcm : c ≤ maxLen)
    (hl : R.length + n ≤ 10000) (hx : ∀ x ∈ l, x.data.length ≤ 100) (hN : ∀ f ∈ R, f.2.length ≤ N) (hNb : N + 100 * n ≤ 100000) :
    Con Try.prog 30 #[rv, .slice A n c] G μ (fun r G' μ' => GH.le G G' ∧ Fls G' r ((l.take n).foldl doneR R) ∧ μ' = μ) := by
  simp only [maxLen] at hcm
  (refine v_enter Try.func30 rfl Try.ntmps30 rfl ?_; intro B _)
  repeat' (first | apply v_seq | apply v_region | apply v_nil | apply v_block | (apply v_pure; (case hop => first | (apply p_assign <;> rfl) | fail); (case hd => rfl)) | fail)
  refine v_loop [5, 0, 1] (fun us G' μ' => GH.le G G' ∧ μ = μ' ∧ ∃ (k : Nat) (v : Value), k ≤ n ∧ us = [Value.int .i64 (k : Nat), v, .slice A n c] ∧ Fls G' v ((l.take k).foldl doneR R) ∧ Ris ((l.take k).foldl doneR R) ∧ ((l.take k).foldl doneR R).length ≤ R.length + k ∧ ∀ f ∈ (l.take k).foldl doneR R, f.2.length ≤ N + 100 * k) (fun us => n - (headI us).toNat) rfl ⟨GH.le_refl _, rfl, 0, rv, by omega, rfl, hs, hr, by simp, by simpa using hN⟩ ?_
  rintro us G' _ ⟨hle, rfl, k, v, hk, rfl, hv, hri, hln, hbd⟩
  by_cases hlt : k < n
  · have e1 : ((k : Nat) : Int).toNat = k := by omega
    have hkl : k < l.length := by omega
    have hA := hO.1 (by omega)
    have hcc := CellsAt.up (hO.2.1 k hkl) hle (fun _ h => h)
    have hdat := (hO.2.2 k hkl).mono hle
    have hxl := hx _ (List.getElem_mem hkl)
    have hnx : (l.take (k + 1)).foldl doneR R = doneR ((l.take k).foldl doneR R) l[k] := by
      rw [List.take_succ_eq_append_getElem hkl, List.foldl_append]
      rfl
    have hd1 := doneR_ris (x := l[k]) hri
    have hd2 := doneR_len (R := (l.take k).foldl doneR R) (x := l[k])
    have hd3 := doneL_bd (x := l[k]) (ins := insB l[k] ((l.take k).foldl doneR R)) hbd
    rw [← hnx] at hd1 hd2
    have hd4 : ∀ f ∈ (l.take (k + 1)).foldl doneR R, f.2.length ≤ N + 100 * (k + 1) := fun f hf => by
      rw [hnx] at hf
      have := hd3 f hf
      omega
    have hq := fun (hd : Bs G' (.slice (dA k) l[k].data.length (dc k)) l[k].data) => done_s (kind := l[k].kind) (no := l[k].no) hv hri hd (by omega) (by omega) (fun f hf => by have := hbd f hf; omega)
    have hq := hq hdat
    have hxe : (⟨l[k].kind, l[k].no, l[k].data⟩ : Dop) = l[k] := rfl
    rw [hxe, ← hnx] at hq
    generalize l[k] = x at *
    repeat' (first | apply v_seq | apply v_region | apply v_nil | apply v_skip | apply v_block | (apply v_pure; (case hop => first | (apply p_move <;> rfl) | (apply p_lt <;> rfl) | (apply p_lenSlice <;> rfl) | (apply p_indexAddrS; (case hx => rfl); (case hi => rfl); (case h0 => omega); (case h => omega); (case hA => first | assumption | fail)) | fail); (case hd => rfl)) | (apply v_cond; (case hc => rfl); all_goals (intro h; (try simp only [reduceCtorEq, dec_true, dec_false, decide_eq_true_eq, decide_eq_false_iff_not, Bool.not_eq_true', Bool.not_eq_false', Option.isNone_iff_eq_none, beq_true, beq_false, beq_iff_eq, beq_eq_false_iff_ne, ne_eq, decide_eq_decide, Bool.not_eq_true, Bool.not_eq_false, Decidable.not_not] at h); first | (exfalso; omega) | skip)) | (apply v_read; (case hop => (apply r_loadN; rfl; exact hcc; rfl)); (case hd => rfl)) | fail)
    refine v_call (μ1 := []) (μ2 := μ) rfl hq (List.Perm.refl _) rfl ?_
    rintro v4 G4 _ hle4 ⟨-, hv4, rfl⟩
    repeat' (first | apply v_region | apply v_nil | apply v_blk | (apply v_pure; (case hop => first | (apply p_move <;> rfl) | (apply p_assign <;> rfl) | (apply p_add; (case hx => rfl); (case hy => rfl); (case h => omega)) | fail); (case hd => rfl)) | fail)
    exact v_again rfl ⟨GH.le_trans hle hle4, rfl, k + 1, v4, by omega, rfl, hv4, hd1, by omega, hd4⟩ (by simp [headI]; omega)
  · obtain rfl : k = n := by omega
    repeat' (first | apply v_seq | apply v_region | apply v_nil | (apply v_exit; (case hp => rfl)) | (apply v_pure; (case hop => first | (apply p_move <;> rfl) | (apply p_lt <;> rfl) | (apply p_assign <;> rfl) | (apply p_lenSlice <;> rfl) | fail); (case hd => rfl)) | (apply v_cond; (case hc => rfl); all_goals (intro h; (try simp only [reduceCtorEq, dec_true, dec_false, decide_eq_true_eq, decide_eq_false_iff_not, Bool.not_eq_true', Bool.not_eq_false', Option.isNone_iff_eq_none, beq_true, beq_false, beq_iff_eq, beq_eq_false_iff_ne, ne_eq, decide_eq_decide, Bool.not_eq_true, Bool.not_eq_false, Decidable.not_not] at h); first | (exfalso; omega) | skip)) | fail)
    exact v_ret μ (outsA1 rfl rfl) (List.Sublist.refl _) ⟨hle, hv, rfl⟩
theorem sameB_s {G : GH} {a b : List Int} {av bv : Value} (ha : Sl G 1 (IntR .u8) av a) (hb : Sl G 1 (IntR .u8) bv b) : Con Try.prog 48 #[av, bv] G [] (Just (.bool (decide (a = b))) G) := by
  obtain ⟨A, c, rfl, hlc, hcm, hsome, hel, _⟩ := ha.openInt
  obtain ⟨A', c', rfl, hlc', hcm', hsome', hel', _⟩ := hb.openInt
  simp only [maxLen] at hcm hcm'
  (refine v_enter Try.func48 rfl Try.ntmps48 rfl ?_; intro B _)
  repeat' (first | apply v_seq | apply v_region | apply v_nil | apply v_skip | apply v_block | (apply v_pure; (case hop => first | (apply p_move <;> rfl) | (apply p_ne <;> rfl) | (apply p_assign <;> rfl) | (apply p_lenSlice <;> rfl) | fail); (case hd => rfl)) | (apply v_cond; (case hc => rfl); all_goals (intro h; (try simp only [reduceCtorEq, dec_true, dec_false, decide_eq_true_eq, decide_eq_false_iff_not, Bool.not_eq_true', Bool.not_eq_false', Option.isNone_iff_eq_none, beq_true, beq_false, beq_iff_eq, beq_eq_false_iff_ne, ne_eq, decide_eq_decide, Bool.not_eq_true, Bool.not_eq_false, Decidable.not_not] at h); first | skip)) | fail)
  · refine v_ret [] (outsA1 rfl rfl) (by repeat (first | exact List.Sublist.refl _ | fail)) ?_
    refine ⟨?_, rfl, rfl⟩
    rw [decide_eq_false]
    intro e
    subst e
    omega
  have hab : a.length = b.length := by omega
  refine v_loop [5, 0, 1] (fun us G' μ' => G' = G ∧ μ' = [] ∧ ∃ k, k ≤ a.length ∧ us = [Value.int .i64 (k : Nat), .slice A a.length c, .slice A' b.length c'] ∧ ∀ i (h : i < a.length) (h' : i < b.length), i < k → a[i] = b[i]) (fun us => a.length - (headI us).toNat) rfl ⟨rfl, rfl, 0, by omega, rfl, by omega⟩ ?_
  rintro us G' μ' ⟨rfl, rfl, k, hk, rfl, hno⟩
  repeat' (first | apply v_seq | apply v_region | apply v_nil | apply v_skip | apply v_block | (apply v_exit; (case hp => rfl)) | (apply v_pure; (case hop => first | (apply p_move <;> rfl) | (apply p_lt <;> rfl) | (apply p_assign <;> rfl) | (apply p_lenSlice <;> rfl) | fail); (case hd => rfl)) | (apply v_cond; (case hc => rfl); all_goals (intro h; (try simp only [reduceCtorEq, dec_true, dec_false, decide_eq_true_eq, decide_eq_false_iff_not, Bool.not_eq_true', Bool.not_eq_false', Option.isNone_iff_eq_none, beq_true, beq_false, beq_iff_eq, beq_eq_false_iff_ne, ne_eq, decide_eq_decide, Bool.not_eq_true, Bool.not_eq_false, Decidable.not_not] at h); first | skip)) | fail)
  · refine d_start [] (by kernel_rfl) (by kernel_rfl) (by kernel_rfl) (by intro e he; first | exact he | fail) ?_
    all_goals (first | (apply d_take 0; (case hi => rfl); (case hop => first | (apply PureOp.read; apply p_move <;> rfl)); (case hf => kernel_rfl); (case hr => kernel_rfl); (case hd => rfl)) | fail)
    all_goals (first | (apply d_take 1; (case hi => rfl); (case hop => first | (apply PureOp.read; apply p_move <;> rfl)); (case hf => kernel_rfl); (case hr => kernel_rfl); (case hd => rfl)) | fail)
    all_goals (first | (apply d_take 2; (case hi => rfl); (case hop => first | (apply PureOp.read; apply p_indexAddrS; (case hx => rfl); (case hi => rfl); (case h0 => omega); (case h => omega); (case hA => first | (apply_assumption; omega)))); (case hf => kernel_rfl); (case hr => kernel_rfl); (case hd => rfl)) | fail)
    all_goals (first | (apply d_take 3; (case hi => rfl); (case hop => first | ((apply r_load1; rfl; exact Cell.frozen (hel _ (by omega)))) | fail); (case hf => kernel_rfl); (case hr => kernel_rfl); (case hd => rfl)) | fail)
    all_goals (first | (apply d_take 4; (case hi => rfl); (case hop => first | (apply PureOp.read; apply p_move <;> rfl)); (case hf => kernel_rfl); (case hr => kernel_rfl); (case hd => rfl)) | fail)
    all_goals (first | (apply d_take 5; (case hi => rfl); (case hop => first | (apply PureOp.read; apply p_move <;> rfl)); (case hf => kernel_rfl); (case hr => kernel_rfl); (case hd => rfl)) | fail)
    all_goals (first | (apply d_take 6; (case hi => rfl); (case hop => first | (apply PureOp.read; apply p_indexAddrS; (case hx => rfl); (case hi => rfl); (case h0 => omega); (case h => omega); (case hA => first | (apply_assumption; omega)))); (case hf => kernel_rfl); (case hr => kernel_rfl); (case hd => rfl)) | fail)
    all_goals (first | (apply d_take 7; (case hi => rfl); (case hop => first | ((apply r_load1; rfl; exact Cell.frozen (hel' _ (by omega)))) | fail); (case hf => kernel_rfl); (case hr => kernel_rfl); (case hd => rfl)) | fail)
    all_goals (first | (apply d_take 8; (case hi => rfl); (case hop => first | (apply PureOp.read; apply p_ne <;> rfl) | fail); (case hf => kernel_rfl); (case hr => kernel_rfl); (case hd => rfl)) | fail)
    all_goals (apply d_done; (case hr => kernel_rfl))
    repeat' (first | apply v_seq | apply v_region | apply v_nil | apply v_skip | apply v_blk | (apply v_pure; (case hop => first | (apply p_move <;> rfl) | (apply p_assign <;> rfl) | (apply p_add; (case hx => rfl); (case hy => rfl); (case h => omega)) | fail); (case hd => rfl)) | (apply v_cond; (case hc => rfl); all_goals (intro h; (try simp only [reduceCtorEq, dec_true, dec_false, decide_eq_true_eq, decide_eq_false_iff_not, Bool.not_eq_true', Bool.not_eq_false', Option.isNone_iff_eq_none, beq_true, beq_false, beq_iff_eq, beq_eq_false_iff_ne, ne_eq, decide_eq_decide, Bool.not_eq_true, Bool.not_eq_false, Decidable.not_not] at h); first | skip)) | fail)
    · refine v_ret [] (outsA1 rfl rfl) (by repeat (first | exact List.Sublist.refl _ | fail)) ?_
      refine ⟨?_, rfl, rfl⟩
      rw [decide_eq_false]
      intro e
      subst e
      contradiction
    · refine v_again rfl ⟨rfl, rfl, k + 1, by omega, rfl, fun i h h' hi => ?_⟩ (by simp [headI]; omega)
      by_cases hik : i = k
      · subst hik; assumption
      · exact hno i h h' (by omega)
  · refine v_ret [] (outsA1 rfl rfl) (by repeat (first | exact List.Sublist.refl _ | fail)) ?_
    refine ⟨?_, rfl, rfl⟩
    rw [decide_eq_true]
    exact List.ext_getElem hab fun i h h' => hno i h h' (by omega)
/-- Each file is a beginning of one of the same number. -/
def Begins (R R' : List Fl) : Prop := R.length = R'.length ∧ ∀ i (h : i < R.length) (h' : i < R'.length), R[i].1 = R'[i].1 ∧ R[i].2.length ≤ R'[i].2.length ∧ R[i].2 = R'[i].2.take R[i].2.length
theorem begins_s {G : GH} {R R' : List Fl} {rv rv' : Value} (hs : Fls G rv R) (hs' : Fls G rv' R') : Con Try.prog 29 #[rv, rv'] G [] (fun r G' μ' => G' = G ∧ μ' = [] ∧ ∃ b, r = .bool b ∧ (Begins R R' → b = true)) := by
  obtain ⟨A, c, dA, dc, rfl, hlc, hcm, hsome, hcl, hbs⟩ := flOpen hs
  obtain ⟨A', c', dA', dc', rfl, hlc', hcm', hsome', hcl', hbs'⟩ := flOpen hs'
  simp only [maxLen] at hcm hcm'
  (refine v_enter Try.func29 rfl Try.ntmps29 rfl ?_; intro B _)
  repeat' (first | apply v_seq | apply v_region | apply v_nil | apply v_skip | apply v_block | (apply v_pure; (case hop => first | (apply p_move <;> rfl) | (apply p_ne <;> rfl) | (apply p_assign <;> rfl) | (apply p_lenSlice <;> rfl) | fail); (case hd => rfl)) | (apply v_cond; (case hc => rfl); all_goals (intro h; (try simp only [reduceCtorEq, dec_true, dec_false, decide_eq_true_eq, decide_eq_false_iff_not, Bool.not_eq_true', Bool.not_eq_false', Option.isNone_iff_eq_none, beq_true, beq_false, beq_iff_eq, beq_eq_false_iff_ne, ne_eq, decide_eq_decide, Bool.not_eq_true, Bool.not_eq_false, Decidable.not_not] at h); first | skip)) | fail)
  · refine v_ret [] (outsA1 rfl rfl) (by repeat (first | exact List.Sublist.refl _ | fail)) ?_
    exact ⟨rfl, rfl, false, rfl, fun h => absurd h.1 (by omega)⟩
  have hll : R.length = R'.length := by omega
  refine v_loop [5, 0, 1] (fun us G' μ' => G' = G ∧ μ' = [] ∧ ∃ k : Nat, k ≤ R.length ∧ us = [Value.int .i64 (k : Nat), .slice A R.length c, .slice A' R'.length c']) (fun us => R.length - (headI us).toNat) rfl ⟨rfl, rfl, 0, by omega, rfl⟩ ?_
  rintro us G' μ' ⟨rfl, rfl, k, hk, rfl⟩
  by_cases hlt : k < R.length
  · have hlt' : k < R'.length := by omega
    have e1 : ((k : Nat) : Int).toNat = k := by omega
    have hA := hsome (by omega)
    have hA' := hsome' (by omega)
    have h0 := (hcl k hlt).cell (j := 0) rfl
    have h1 := (hcl k hlt).cell (j := 1) rfl
    have h0' := (hcl' k hlt').cell (j := 0) rfl
    have h1' := (hcl' k hlt').cell (j := 1) rfl
    have hb := hbs k hlt
    have hb' := hbs' k hlt'
    have hB : Begins R R' → R[k].1 = R'[k].1 ∧ R[k].2.length ≤ R'[k].2.length ∧ R[k].2 = R'[k].2.take R[k].2.length := fun h => h.2 k hlt hlt'
    generalize R[k] = f at *
    generalize R'[k] = f' at *
    obtain ⟨fno, fd⟩ := f
    obtain ⟨fno', fd'⟩ := f'
    simp only at *
    have hcd : fd'.length ≤ dc' k ∧ dc' k ≤ maxLen := by
      obtain ⟨A9, c9, he9, hl9, hm9, -, -, -⟩ := hb'.openInt
      injection he9 with ea9 _ ec9
      subst ec9
      exact ⟨hl9, hm9⟩
    have hcd1 := hcd.1
    have hcd2 := hcd.2
    simp only [maxLen] at hcd2
    have q : fd.length ≤ fd'.length → Con Try.prog 48 #[.slice (dA k) fd.length (dc k), .slice (dA' k) fd.length (dc' k)] G' [] (Just (.bool (decide (fd = fd'.take fd.length))) G') := fun h => sameB_s hb (hb'.take h)
    generalize hsb : decide (fd = fd'.take fd.length) = sb at *
    repeat' (first | apply v_seq | apply v_region | apply v_nil | apply v_skip | apply v_block | (apply v_pure; (case hop => first | (apply p_move <;> rfl) | (apply p_lt <;> rfl) | (apply p_lenSlice <;> rfl) | fail); (case hd => rfl)) | (apply v_cond; (case hc => rfl); all_goals (intro h; (try simp only [reduceCtorEq, dec_true, dec_false, decide_eq_true_eq, decide_eq_false_iff_not, Bool.not_eq_true', Bool.not_eq_false', Option.isNone_iff_eq_none, beq_true, beq_false, beq_iff_eq, beq_eq_false_iff_ne, ne_eq, decide_eq_decide, Bool.not_eq_true, Bool.not_eq_false, Decidable.not_not] at h); first | (exfalso; omega) | skip)) | fail)
    refine d_start [] (by kernel_rfl) (by kernel_rfl) (by kernel_rfl) (by intro e he; first | exact he | fail) ?_
    all_goals (first | (apply d_take 0; (case hi => rfl); (case hop => first | (apply PureOp.read; apply p_move <;> rfl)); (case hf => kernel_rfl); (case hr => kernel_rfl); (case hd => rfl)) | fail)
    all_goals (first | (apply d_take 1; (case hi => rfl); (case hop => first | (apply PureOp.read; apply p_move <;> rfl)); (case hf => kernel_rfl); (case hr => kernel_rfl); (case hd => rfl)) | fail)
    all_goals (first | (apply d_take 2; (case hi => rfl); (case hop => first | (apply PureOp.read; apply p_indexAddrS; (case hx => rfl); (case hi => rfl); (case h0 => omega); (case h => omega); (case hA => first | assumption | fail))); (case hf => kernel_rfl); (case hr => kernel_rfl); (case hd => rfl)) | fail)
    all_goals (first | (apply d_take 3; (case hi => rfl); (case hop => first | (apply PureOp.read; apply p_fieldAddr <;> rfl)); (case hf => kernel_rfl); (case hr => kernel_rfl); (case hd => rfl)) | fail)
    all_goals (first | (apply d_take 4; (case hi => rfl); (case hop => first | ((apply r_load1; rfl; exact Cell.frozen h0)) | fail); (case hf => kernel_rfl); (case hr => kernel_rfl); (case hd => rfl)) | fail)
    all_goals (first | (apply d_take 5; (case hi => rfl); (case hop => first | (apply PureOp.read; apply p_move <;> rfl)); (case hf => kernel_rfl); (case hr => kernel_rfl); (case hd => rfl)) | fail)
    all_goals (first | (apply d_take 6; (case hi => rfl); (case hop => first | (apply PureOp.read; apply p_move <;> rfl)); (case hf => kernel_rfl); (case hr => kernel_rfl); (case hd => rfl)) | fail)
    all_goals (first | (apply d_take 7; (case hi => rfl); (case hop => first | (apply PureOp.read; apply p_indexAddrS; (case hx => rfl); (case hi => rfl); (case h0 => omega); (case h => omega); (case hA => first | assumption | fail))); (case hf => kernel_rfl); (case hr => kernel_rfl); (case hd => rfl)) | fail)
    all_goals (first | (apply d_take 8; (case hi => rfl); (case hop => first | (apply PureOp.read; apply p_fieldAddr <;> rfl)); (case hf => kernel_rfl); (case hr => kernel_rfl); (case hd => rfl)) | fail)
    all_goals (first | (apply d_take 9; (case hi => rfl); (case hop => first | ((apply r_load1; rfl; exact Cell.frozen h0')) | fail); (case hf => kernel_rfl); (case hr => kernel_rfl); (case hd => rfl)) | fail)
    all_goals (first | (apply d_take 10; (case hi => rfl); (case hop => first | (apply PureOp.read; apply p_ne <;> rfl) | fail); (case hf => kernel_rfl); (case hr => kernel_rfl); (case hd => rfl)) | fail)
    all_goals (first | (apply d_take 11; (case hi => rfl); (case hop => first | (apply PureOp.read; apply p_move <;> rfl)); (case hf => kernel_rfl); (case hr => kernel_rfl); (case hd => rfl)) | fail)
    all_goals (try (apply d_guardB 12; (case hi => rfl); (case hgd => rfl); (case h1 => rfl); (case h2 => first | rfl); all_goals (intro h; (try simp only [reduceCtorEq, dec_true, dec_false, decide_eq_true_eq, decide_eq_false_iff_not, Bool.not_eq_true', Bool.not_eq_false', Option.isNone_iff_eq_none, beq_true, beq_false, beq_iff_eq, beq_eq_false_iff_ne, ne_eq, decide_eq_decide, Bool.not_eq_true, Bool.not_eq_false, Decidable.not_not] at h); first | skip)))
    all_goals (first | (apply d_pass 12; (case hi => rfl); (case hg => rfl); (case hn => rfl); (case hf => kernel_rfl); (case hr => kernel_rfl); (case hd => rfl)) | (apply d_takeG 12; (case hi => rfl); (case hg => rfl); (case hop => first | (apply PureOp.read; apply p_move <;> rfl)); (case hf => kernel_rfl); (case hr => kernel_rfl); (case hd => rfl)) | fail)
    all_goals (try (apply d_guardB 13; (case hi => rfl); (case hgd => rfl); (case h1 => rfl); (case h2 => first | rfl); all_goals (intro h; (try simp only [reduceCtorEq, dec_true, dec_false, decide_eq_true_eq, decide_eq_false_iff_not, Bool.not_eq_true', Bool.not_eq_false', Option.isNone_iff_eq_none, beq_true, beq_false, beq_iff_eq, beq_eq_false_iff_ne, ne_eq, decide_eq_decide, Bool.not_eq_true, Bool.not_eq_false, Decidable.not_not] at h); first | done | skip)))
    all_goals (first | (apply d_pass 13; (case hi => rfl); (case hg => rfl); (case hn => rfl); (case hf => kernel_rfl); (case hr => kernel_rfl); (case hd => rfl)) | (apply d_takeG 13; (case hi => rfl); (case hg => rfl); (case hop => first | (apply PureOp.read; apply p_move <;> rfl)); (case hf => kernel_rfl); (case hr => kernel_rfl); (case hd => rfl)) | fail)
    all_goals (try (apply d_guardB 14; (case hi => rfl); (case hgd => rfl); (case h1 => rfl); (case h2 => first | rfl); all_goals (intro h; (try simp only [reduceCtorEq, dec_true, dec_false, decide_eq_true_eq, decide_eq_false_iff_not, Bool.not_eq_true', Bool.not_eq_false', Option.isNone_iff_eq_none, beq_true, beq_false, beq_iff_eq, beq_eq_false_iff_ne, ne_eq, decide_eq_decide, Bool.not_eq_true, Bool.not_eq_false, Decidable.not_not] at h); first | done | skip)))
    all_goals (first | (apply d_pass 14; (case hi => rfl); (case hg => rfl); (case hn => rfl); (case hf => kernel_rfl); (case hr => kernel_rfl); (case hd => rfl)) | (apply d_takeG 14; (case hi => rfl); (case hg => rfl); (case hop => first | (apply PureOp.read; apply p_indexAddrS; (case hx => rfl); (case hi => rfl); (case h0 => omega); (case h => omega); (case hA => first | assumption | fail))); (case hf => kernel_rfl); (case hr => kernel_rfl); (case hd => rfl)) | fail)
    all_goals (try (apply d_guardB 15; (case hi => rfl); (case hgd => rfl); (case h1 => rfl); (case h2 => first | rfl); all_goals (intro h; (try simp only [reduceCtorEq, dec_true, dec_false, decide_eq_true_eq, decide_eq_false_iff_not, Bool.not_eq_true', Bool.not_eq_false', Option.isNone_iff_eq_none, beq_true, beq_false, beq_iff_eq, beq_eq_false_iff_ne, ne_eq, decide_eq_decide, Bool.not_eq_true, Bool.not_eq_false, Decidable.not_not] at h); first | done | skip)))
    all_goals (first | (apply d_pass 15; (case hi => rfl); (case hg => rfl); (case hn => rfl); (case hf => kernel_rfl); (case hr => kernel_rfl); (case hd => rfl)) | (apply d_takeG 15; (case hi => rfl); (case hg => rfl); (case hop => first | (apply PureOp.read; apply p_fieldAddr <;> rfl)); (case hf => kernel_rfl); (case hr => kernel_rfl); (case hd => rfl)) | fail)
    all_goals (try (apply d_guardB 16; (case hi => rfl); (case hgd => rfl); (case h1 => rfl); (case h2 => first | rfl); all_goals (intro h; (try simp only [reduceCtorEq, dec_true, dec_false, decide_eq_true_eq, decide_eq_false_iff_not, Bool.not_eq_true', Bool.not_eq_false', Option.isNone_iff_eq_none, beq_true, beq_false, beq_iff_eq, beq_eq_false_iff_ne, ne_eq, decide_eq_decide, Bool.not_eq_true, Bool.not_eq_false, Decidable.not_not] at h); first | done | skip)))
    all_goals (first | (apply d_pass 16; (case hi => rfl); (case hg => rfl); (case hn => rfl); (case hf => kernel_rfl); (case hr => kernel_rfl); (case hd => rfl)) | (apply d_takeG 16; (case hi => rfl); (case hg => rfl); (case hop => first | ((apply r_load1; rfl; exact Cell.frozen h1)) | fail); (case hf => kernel_rfl); (case hr => kernel_rfl); (case hd => rfl)) | fail)
    all_goals (try (apply d_guardB 17; (case hi => rfl); (case hgd => rfl); (case h1 => rfl); (case h2 => first | rfl); all_goals (intro h; (try simp only [reduceCtorEq, dec_true, dec_false, decide_eq_true_eq, decide_eq_false_iff_not, Bool.not_eq_true', Bool.not_eq_false', Option.isNone_iff_eq_none, beq_true, beq_false, beq_iff_eq, beq_eq_false_iff_ne, ne_eq, decide_eq_decide, Bool.not_eq_true, Bool.not_eq_false, Decidable.not_not] at h); first | done | skip)))
    all_goals (first | (apply d_pass 17; (case hi => rfl); (case hg => rfl); (case hn => rfl); (case hf => kernel_rfl); (case hr => kernel_rfl); (case hd => rfl)) | (apply d_takeG 17; (case hi => rfl); (case hg => rfl); (case hop => first | (apply PureOp.read; apply p_lenSlice <;> rfl) | fail); (case hf => kernel_rfl); (case hr => kernel_rfl); (case hd => rfl)) | fail)
    all_goals (try (apply d_guardB 18; (case hi => rfl); (case hgd => rfl); (case h1 => rfl); (case h2 => first | rfl); all_goals (intro h; (try simp only [reduceCtorEq, dec_true, dec_false, decide_eq_true_eq, decide_eq_false_iff_not, Bool.not_eq_true', Bool.not_eq_false', Option.isNone_iff_eq_none, beq_true, beq_false, beq_iff_eq, beq_eq_false_iff_ne, ne_eq, decide_eq_decide, Bool.not_eq_true, Bool.not_eq_false, Decidable.not_not] at h); first | done | skip)))
    all_goals (first | (apply d_pass 18; (case hi => rfl); (case hg => rfl); (case hn => rfl); (case hf => kernel_rfl); (case hr => kernel_rfl); (case hd => rfl)) | (apply d_takeG 18; (case hi => rfl); (case hg => rfl); (case hop => first | (apply PureOp.read; apply p_move <;> rfl)); (case hf => kernel_rfl); (case hr => kernel_rfl); (case hd => rfl)) | fail)
    all_goals (try (apply d_guardB 19; (case hi => rfl); (case hgd => rfl); (case h1 => rfl); (case h2 => first | rfl); all_goals (intro h; (try simp only [reduceCtorEq, dec_true, dec_false, decide_eq_true_eq, decide_eq_false_iff_not, Bool.not_eq_true', Bool.not_eq_false', Option.isNone_iff_eq_none, beq_true, beq_false, beq_iff_eq, beq_eq_false_iff_ne, ne_eq, decide_eq_decide, Bool.not_eq_true, Bool.not_eq_false, Decidable.not_not] at h); first | done | skip)))
    all_goals (first | (apply d_pass 19; (case hi => rfl); (case hg => rfl); (case hn => rfl); (case hf => kernel_rfl); (case hr => kernel_rfl); (case hd => rfl)) | (apply d_takeG 19; (case hi => rfl); (case hg => rfl); (case hop => first | (apply PureOp.read; apply p_move <;> rfl)); (case hf => kernel_rfl); (case hr => kernel_rfl); (case hd => rfl)) | fail)
    all_goals (try (apply d_guardB 20; (case hi => rfl); (case hgd => rfl); (case h1 => rfl); (case h2 => first | rfl); all_goals (intro h; (try simp only [reduceCtorEq, dec_true, dec_false, decide_eq_true_eq, decide_eq_false_iff_not, Bool.not_eq_true', Bool.not_eq_false', Option.isNone_iff_eq_none, beq_true, beq_false, beq_iff_eq, beq_eq_false_iff_ne, ne_eq, decide_eq_decide, Bool.not_eq_true, Bool.not_eq_false, Decidable.not_not] at h); first | done | skip)))
    all_goals (first | (apply d_pass 20; (case hi => rfl); (case hg => rfl); (case hn => rfl); (case hf => kernel_rfl); (case hr => kernel_rfl); (case hd => rfl)) | (apply d_takeG 20; (case hi => rfl); (case hg => rfl); (case hop => first | (apply PureOp.read; apply p_indexAddrS; (case hx => rfl); (case hi => rfl); (case h0 => omega); (case h => omega); (case hA => first | assumption | fail))); (case hf => kernel_rfl); (case hr => kernel_rfl); (case hd => rfl)) | fail)
    all_goals (try (apply d_guardB 21; (case hi => rfl); (case hgd => rfl); (case h1 => rfl); (case h2 => first | rfl); all_goals (intro h; (try simp only [reduceCtorEq, dec_true, dec_false, decide_eq_true_eq, decide_eq_false_iff_not, Bool.not_eq_true', Bool.not_eq_false', Option.isNone_iff_eq_none, beq_true, beq_false, beq_iff_eq, beq_eq_false_iff_ne, ne_eq, decide_eq_decide, Bool.not_eq_true, Bool.not_eq_false, Decidable.not_not] at h); first | done | skip)))
    all_goals (first | (apply d_pass 21; (case hi => rfl); (case hg => rfl); (case hn => rfl); (case hf => kernel_rfl); (case hr => kernel_rfl); (case hd => rfl)) | (apply d_takeG 21; (case hi => rfl); (case hg => rfl); (case hop => first | (apply PureOp.read; apply p_fieldAddr <;> rfl)); (case hf => kernel_rfl); (case hr => kernel_rfl); (case hd => rfl)) | fail)
    all_goals (try (apply d_guardB 22; (case hi => rfl); (case hgd => rfl); (case h1 => rfl); (case h2 => first | rfl); all_goals (intro h; (try simp only [reduceCtorEq, dec_true, dec_false, decide_eq_true_eq, decide_eq_false_iff_not, Bool.not_eq_true', Bool.not_eq_false', Option.isNone_iff_eq_none, beq_true, beq_false, beq_iff_eq, beq_eq_false_iff_ne, ne_eq, decide_eq_decide, Bool.not_eq_true, Bool.not_eq_false, Decidable.not_not] at h); first | done | skip)))
    all_goals (first | (apply d_pass 22; (case hi => rfl); (case hg => rfl); (case hn => rfl); (case hf => kernel_rfl); (case hr => kernel_rfl); (case hd => rfl)) | (apply d_takeG 22; (case hi => rfl); (case hg => rfl); (case hop => first | ((apply r_load1; rfl; exact Cell.frozen h1')) | fail); (case hf => kernel_rfl); (case hr => kernel_rfl); (case hd => rfl)) | fail)
    all_goals (try (apply d_guardB 23; (case hi => rfl); (case hgd => rfl); (case h1 => rfl); (case h2 => first | rfl); all_goals (intro h; (try simp only [reduceCtorEq, dec_true, dec_false, decide_eq_true_eq, decide_eq_false_iff_not, Bool.not_eq_true', Bool.not_eq_false', Option.isNone_iff_eq_none, beq_true, beq_false, beq_iff_eq, beq_eq_false_iff_ne, ne_eq, decide_eq_decide, Bool.not_eq_true, Bool.not_eq_false, Decidable.not_not] at h); first | done | skip)))
    all_goals (first | (apply d_pass 23; (case hi => rfl); (case hg => rfl); (case hn => rfl); (case hf => kernel_rfl); (case hr => kernel_rfl); (case hd => rfl)) | (apply d_takeG 23; (case hi => rfl); (case hg => rfl); (case hop => first | (apply PureOp.read; apply p_lenSlice <;> rfl) | fail); (case hf => kernel_rfl); (case hr => kernel_rfl); (case hd => rfl)) | fail)
    all_goals (try (apply d_guardB 24; (case hi => rfl); (case hgd => rfl); (case h1 => rfl); (case h2 => first | rfl); all_goals (intro h; (try simp only [reduceCtorEq, dec_true, dec_false, decide_eq_true_eq, decide_eq_false_iff_not, Bool.not_eq_true', Bool.not_eq_false', Option.isNone_iff_eq_none, beq_true, beq_false, beq_iff_eq, beq_eq_false_iff_ne, ne_eq, decide_eq_decide, Bool.not_eq_true, Bool.not_eq_false, Decidable.not_not] at h); first | done | skip)))
    all_goals (first | (apply d_pass 24; (case hi => rfl); (case hg => rfl); (case hn => rfl); (case hf => kernel_rfl); (case hr => kernel_rfl); (case hd => rfl)) | (apply d_takeG 24; (case hi => rfl); (case hg => rfl); (case hop => first | (apply PureOp.read; apply p_gt <;> rfl)); (case hf => kernel_rfl); (case hr => kernel_rfl); (case hd => rfl)) | fail)
    all_goals (first | (apply d_take 25; (case hi => rfl); (case hop => first | (apply PureOp.read; apply p_pickT <;> rfl) | (apply PureOp.read; apply p_pickF <;> rfl) | fail); (case hf => kernel_rfl); (case hr => kernel_rfl); (case hd => rfl)) | fail)
    all_goals (first | (apply d_take 26; (case hi => rfl); (case hop => first | (apply PureOp.read; apply p_move <;> rfl)); (case hf => kernel_rfl); (case hr => kernel_rfl); (case hd => rfl)) | fail)
    all_goals (try (apply d_guardB 27; (case hi => rfl); (case hgd => rfl); (case h1 => rfl); (case h2 => first | rfl); all_goals (intro h; (try simp only [reduceCtorEq, dec_true, dec_false, decide_eq_true_eq, decide_eq_false_iff_not, Bool.not_eq_true', Bool.not_eq_false', Option.isNone_iff_eq_none, beq_true, beq_false, beq_iff_eq, beq_eq_false_iff_ne, ne_eq, decide_eq_decide, Bool.not_eq_true, Bool.not_eq_false, Decidable.not_not] at h); first | done | skip)))
    all_goals (first | (apply d_pass 27; (case hi => rfl); (case hg => rfl); (case hn => rfl); (case hf => kernel_rfl); (case hr => kernel_rfl); (case hd => rfl)) | (apply d_takeG 27; (case hi => rfl); (case hg => rfl); (case hop => first | (apply PureOp.read; apply p_move <;> rfl)); (case hf => kernel_rfl); (case hr => kernel_rfl); (case hd => rfl)) | fail)
    all_goals (try (apply d_guardB 28; (case hi => rfl); (case hgd => rfl); (case h1 => rfl); (case h2 => first | rfl); all_goals (intro h; (try simp only [reduceCtorEq, dec_true, dec_false, decide_eq_true_eq, decide_eq_false_iff_not, Bool.not_eq_true', Bool.not_eq_false', Option.isNone_iff_eq_none, beq_true, beq_false, beq_iff_eq, beq_eq_false_iff_ne, ne_eq, decide_eq_decide, Bool.not_eq_true, Bool.not_eq_false, Decidable.not_not] at h); first | done | skip)))
    all_goals (first | (apply d_pass 28; (case hi => rfl); (case hg => rfl); (case hn => rfl); (case hf => kernel_rfl); (case hr => kernel_rfl); (case hd => rfl)) | (apply d_takeG 28; (case hi => rfl); (case hg => rfl); (case hop => first | (apply PureOp.read; apply p_move <;> rfl)); (case hf => kernel_rfl); (case hr => kernel_rfl); (case hd => rfl)) | fail)
    all_goals (try (apply d_guardB 29; (case hi => rfl); (case hgd => rfl); (case h1 => rfl); (case h2 => first | rfl); all_goals (intro h; (try simp only [reduceCtorEq, dec_true, dec_false, decide_eq_true_eq, decide_eq_false_iff_not, Bool.not_eq_true', Bool.not_eq_false', Option.isNone_iff_eq_none, beq_true, beq_false, beq_iff_eq, beq_eq_false_iff_ne, ne_eq, decide_eq_decide, Bool.not_eq_true, Bool.not_eq_false, Decidable.not_not] at h); first | done | skip)))
    all_goals (first | (apply d_pass 29; (case hi => rfl); (case hg => rfl); (case hn => rfl); (case hf => kernel_rfl); (case hr => kernel_rfl); (case hd => rfl)) | (apply d_takeG 29; (case hi => rfl); (case hg => rfl); (case hop => first | (apply PureOp.read; apply p_indexAddrS; (case hx => rfl); (case hi => rfl); (case h0 => omega); (case h => omega); (case hA => first | assumption | fail))); (case hf => kernel_rfl); (case hr => kernel_rfl); (case hd => rfl)) | fail)
    all_goals (try (apply d_guardB 30; (case hi => rfl); (case hgd => rfl); (case h1 => rfl); (case h2 => first | rfl); all_goals (intro h; (try simp only [reduceCtorEq, dec_true, dec_false, decide_eq_true_eq, decide_eq_false_iff_not, Bool.not_eq_true', Bool.not_eq_false', Option.isNone_iff_eq_none, beq_true, beq_false, beq_iff_eq, beq_eq_false_iff_ne, ne_eq, decide_eq_decide, Bool.not_eq_true, Bool.not_eq_false, Decidable.not_not] at h); first | done | skip)))
    all_goals (first | (apply d_pass 30; (case hi => rfl); (case hg => rfl); (case hn => rfl); (case hf => kernel_rfl); (case hr => kernel_rfl); (case hd => rfl)) | (apply d_takeG 30; (case hi => rfl); (case hg => rfl); (case hop => first | (apply PureOp.read; apply p_fieldAddr <;> rfl)); (case hf => kernel_rfl); (case hr => kernel_rfl); (case hd => rfl)) | fail)
    all_goals (try (apply d_guardB 31; (case hi => rfl); (case hgd => rfl); (case h1 => rfl); (case h2 => first | rfl); all_goals (intro h; (try simp only [reduceCtorEq, dec_true, dec_false, decide_eq_true_eq, decide_eq_false_iff_not, Bool.not_eq_true', Bool.not_eq_false', Option.isNone_iff_eq_none, beq_true, beq_false, beq_iff_eq, beq_eq_false_iff_ne, ne_eq, decide_eq_decide, Bool.not_eq_true, Bool.not_eq_false, Decidable.not_not] at h); first | done | skip)))
    all_goals (first | (apply d_pass 31; (case hi => rfl); (case hg => rfl); (case hn => rfl); (case hf => kernel_rfl); (case hr => kernel_rfl); (case hd => rfl)) | (apply d_takeG 31; (case hi => rfl); (case hg => rfl); (case hop => first | ((apply r_load1; rfl; exact Cell.frozen h1)) | fail); (case hf => kernel_rfl); (case hr => kernel_rfl); (case hd => rfl)) | fail)
    all_goals (try (apply d_guardB 32; (case hi => rfl); (case hgd => rfl); (case h1 => rfl); (case h2 => first | rfl); all_goals (intro h; (try simp only [reduceCtorEq, dec_true, dec_false, decide_eq_true_eq, decide_eq_false_iff_not, Bool.not_eq_true', Bool.not_eq_false', Option.isNone_iff_eq_none, beq_true, beq_false, beq_iff_eq, beq_eq_false_iff_ne, ne_eq, decide_eq_decide, Bool.not_eq_true, Bool.not_eq_false, Decidable.not_not] at h); first | done | skip)))
    all_goals (first | (apply d_pass 32; (case hi => rfl); (case hg => rfl); (case hn => rfl); (case hf => kernel_rfl); (case hr => kernel_rfl); (case hd => rfl)) | (apply d_takeG 32; (case hi => rfl); (case hg => rfl); (case hop => first | (apply PureOp.read; apply p_move <;> rfl)); (case hf => kernel_rfl); (case hr => kernel_rfl); (case hd => rfl)) | fail)
    all_goals (try (apply d_guardB 33; (case hi => rfl); (case hgd => rfl); (case h1 => rfl); (case h2 => first | rfl); all_goals (intro h; (try simp only [reduceCtorEq, dec_true, dec_false, decide_eq_true_eq, decide_eq_false_iff_not, Bool.not_eq_true', Bool.not_eq_false', Option.isNone_iff_eq_none, beq_true, beq_false, beq_iff_eq, beq_eq_false_iff_ne, ne_eq, decide_eq_decide, Bool.not_eq_true, Bool.not_eq_false, Decidable.not_not] at h); first | done | skip)))
    all_goals (first | (apply d_pass 33; (case hi => rfl); (case hg => rfl); (case hn => rfl); (case hf => kernel_rfl); (case hr => kernel_rfl); (case hd => rfl)) | (apply d_takeG 33; (case hi => rfl); (case hg => rfl); (case hop => first | (apply PureOp.read; apply p_move <;> rfl)); (case hf => kernel_rfl); (case hr => kernel_rfl); (case hd => rfl)) | fail)
    all_goals (try (apply d_guardB 34; (case hi => rfl); (case hgd => rfl); (case h1 => rfl); (case h2 => first | rfl); all_goals (intro h; (try simp only [reduceCtorEq, dec_true, dec_false, decide_eq_true_eq, decide_eq_false_iff_not, Bool.not_eq_true', Bool.not_eq_false', Option.isNone_iff_eq_none, beq_true, beq_false, beq_iff_eq, beq_eq_false_iff_ne, ne_eq, decide_eq_decide, Bool.not_eq_true, Bool.not_eq_false, Decidable.not_not] at h); first | done | skip)))
    all_goals (first | (apply d_pass 34; (case hi => rfl); (case hg => rfl); (case hn => rfl); (case hf => kernel_rfl); (case hr => kernel_rfl); (case hd => rfl)) | (apply d_takeG 34; (case hi => rfl); (case hg => rfl); (case hop => first | (apply PureOp.read; apply p_indexAddrS; (case hx => rfl); (case hi => rfl); (case h0 => omega); (case h => omega); (case hA => first | assumption | fail))); (case hf => kernel_rfl); (case hr => kernel_rfl); (case hd => rfl)) | fail)
    all_goals (try (apply d_guardB 35; (case hi => rfl); (case hgd => rfl); (case h1 => rfl); (case h2 => first | rfl); all_goals (intro h; (try simp only [reduceCtorEq, dec_true, dec_false, decide_eq_true_eq, decide_eq_false_iff_not, Bool.not_eq_true', Bool.not_eq_false', Option.isNone_iff_eq_none, beq_true, beq_false, beq_iff_eq, beq_eq_false_iff_ne, ne_eq, decide_eq_decide, Bool.not_eq_true, Bool.not_eq_false, Decidable.not_not] at h); first | done | skip)))
    all_goals (first | (apply d_pass 35; (case hi => rfl); (case hg => rfl); (case hn => rfl); (case hf => kernel_rfl); (case hr => kernel_rfl); (case hd => rfl)) | (apply d_takeG 35; (case hi => rfl); (case hg => rfl); (case hop => first | (apply PureOp.read; apply p_fieldAddr <;> rfl)); (case hf => kernel_rfl); (case hr => kernel_rfl); (case hd => rfl)) | fail)
    all_goals (try (apply d_guardB 36; (case hi => rfl); (case hgd => rfl); (case h1 => rfl); (case h2 => first | rfl); all_goals (intro h; (try simp only [reduceCtorEq, dec_true, dec_false, decide_eq_true_eq, decide_eq_false_iff_not, Bool.not_eq_true', Bool.not_eq_false', Option.isNone_iff_eq_none, beq_true, beq_false, beq_iff_eq, beq_eq_false_iff_ne, ne_eq, decide_eq_decide, Bool.not_eq_true, Bool.not_eq_false, Decidable.not_not] at h); first | done | skip)))
    all_goals (first | (apply d_pass 36; (case hi => rfl); (case hg => rfl); (case hn => rfl); (case hf => kernel_rfl); (case hr => kernel_rfl); (case hd => rfl)) | (apply d_takeG 36; (case hi => rfl); (case hg => rfl); (case hop => first | ((apply r_load1; rfl; exact Cell.frozen h1')) | fail); (case hf => kernel_rfl); (case hr => kernel_rfl); (case hd => rfl)) | fail)
    all_goals (try (apply d_guardB 37; (case hi => rfl); (case hgd => rfl); (case h1 => rfl); (case h2 => first | rfl); all_goals (intro h; (try simp only [reduceCtorEq, dec_true, dec_false, decide_eq_true_eq, decide_eq_false_iff_not, Bool.not_eq_true', Bool.not_eq_false', Option.isNone_iff_eq_none, beq_true, beq_false, beq_iff_eq, beq_eq_false_iff_ne, ne_eq, decide_eq_decide, Bool.not_eq_true, Bool.not_eq_false, Decidable.not_not] at h); first | done | skip)))
    all_goals (first | (apply d_pass 37; (case hi => rfl); (case hg => rfl); (case hn => rfl); (case hf => kernel_rfl); (case hr => kernel_rfl); (case hd => rfl)) | (apply d_takeG 37; (case hi => rfl); (case hg => rfl); (case hop => first | (apply PureOp.read; apply p_move <;> rfl)); (case hf => kernel_rfl); (case hr => kernel_rfl); (case hd => rfl)) | fail)
    all_goals (try (apply d_guardB 38; (case hi => rfl); (case hgd => rfl); (case h1 => rfl); (case h2 => first | rfl); all_goals (intro h; (try simp only [reduceCtorEq, dec_true, dec_false, decide_eq_true_eq, decide_eq_false_iff_not, Bool.not_eq_true', Bool.not_eq_false', Option.isNone_iff_eq_none, beq_true, beq_false, beq_iff_eq, beq_eq_false_iff_ne, ne_eq, decide_eq_decide, Bool.not_eq_true, Bool.not_eq_false, Decidable.not_not] at h); first | done | skip)))
    all_goals (first | (apply d_pass 38; (case hi => rfl); (case hg => rfl); (case hn => rfl); (case hf => kernel_rfl); (case hr => kernel_rfl); (case hd => rfl)) | (apply d_takeG 38; (case hi => rfl); (case hg => rfl); (case hop => first | (apply PureOp.read; apply p_move <;> rfl)); (case hf => kernel_rfl); (case hr => kernel_rfl); (case hd => rfl)) | fail)
    all_goals (try (apply d_guardB 39; (case hi => rfl); (case hgd => rfl); (case h1 => rfl); (case h2 => first | rfl); all_goals (intro h; (try simp only [reduceCtorEq, dec_true, dec_false, decide_eq_true_eq, decide_eq_false_iff_not, Bool.not_eq_true', Bool.not_eq_false', Option.isNone_iff_eq_none, beq_true, beq_false, beq_iff_eq, beq_eq_false_iff_ne, ne_eq, decide_eq_decide, Bool.not_eq_true, Bool.not_eq_false, Decidable.not_not] at h); first | done | skip)))
    all_goals (first | (apply d_pass 39; (case hi => rfl); (case hg => rfl); (case hn => rfl); (case hf => kernel_rfl); (case hr => kernel_rfl); (case hd => rfl)) | (apply d_takeG 39; (case hi => rfl); (case hg => rfl); (case hop => first | (apply PureOp.read; apply p_indexAddrS; (case hx => rfl); (case hi => rfl); (case h0 => omega); (case h => omega); (case hA => first | assumption | fail))); (case hf => kernel_rfl); (case hr => kernel_rfl); (case hd => rfl)) | fail)
    all_goals (try (apply d_guardB 40; (case hi => rfl); (case hgd => rfl); (case h1 => rfl); (case h2 => first | rfl); all_goals (intro h; (try simp only [reduceCtorEq, dec_true, dec_false, decide_eq_true_eq, decide_eq_false_iff_not, Bool.not_eq_true', Bool.not_eq_false', Option.isNone_iff_eq_none, beq_true, beq_false, beq_iff_eq, beq_eq_false_iff_ne, ne_eq, decide_eq_decide, Bool.not_eq_true, Bool.not_eq_false, Decidable.not_not] at h); first | done | skip)))
    all_goals (first | (apply d_pass 40; (case hi => rfl); (case hg => rfl); (case hn => rfl); (case hf => kernel_rfl); (case hr => kernel_rfl); (case hd => rfl)) | (apply d_takeG 40; (case hi => rfl); (case hg => rfl); (case hop => first | (apply PureOp.read; apply p_fieldAddr <;> rfl)); (case hf => kernel_rfl); (case hr => kernel_rfl); (case hd => rfl)) | fail)
    all_goals (try (apply d_guardB 41; (case hi => rfl); (case hgd => rfl); (case h1 => rfl); (case h2 => first | rfl); all_goals (intro h; (try simp only [reduceCtorEq, dec_true, dec_false, decide_eq_true_eq, decide_eq_false_iff_not, Bool.not_eq_true', Bool.not_eq_false', Option.isNone_iff_eq_none, beq_true, beq_false, beq_iff_eq, beq_eq_false_iff_ne, ne_eq, decide_eq_decide, Bool.not_eq_true, Bool.not_eq_false, Decidable.not_not] at h); first | done | skip)))
    all_goals (first | (apply d_pass 41; (case hi => rfl); (case hg => rfl); (case hn => rfl); (case hf => kernel_rfl); (case hr => kernel_rfl); (case hd => rfl)) | (apply d_takeG 41; (case hi => rfl); (case hg => rfl); (case hop => first | ((apply r_load1; rfl; exact Cell.frozen h1)) | fail); (case hf => kernel_rfl); (case hr => kernel_rfl); (case hd => rfl)) | fail)
    all_goals (try (apply d_guardB 42; (case hi => rfl); (case hgd => rfl); (case h1 => rfl); (case h2 => first | rfl); all_goals (intro h; (try simp only [reduceCtorEq, dec_true, dec_false, decide_eq_true_eq, decide_eq_false_iff_not, Bool.not_eq_true', Bool.not_eq_false', Option.isNone_iff_eq_none, beq_true, beq_false, beq_iff_eq, beq_eq_false_iff_ne, ne_eq, decide_eq_decide, Bool.not_eq_true, Bool.not_eq_false, Decidable.not_not] at h); first | done | skip)))
    all_goals (first | (apply d_pass 42; (case hi => rfl); (case hg => rfl); (case hn => rfl); (case hf => kernel_rfl); (case hr => kernel_rfl); (case hd => rfl)) | (apply d_takeG 42; (case hi => rfl); (case hg => rfl); (case hop => first | (apply PureOp.read; apply p_lenSlice <;> rfl) | fail); (case hf => kernel_rfl); (case hr => kernel_rfl); (case hd => rfl)) | fail)
    all_goals (try (apply d_guardB 43; (case hi => rfl); (case hgd => rfl); (case h1 => rfl); (case h2 => first | rfl); all_goals (intro h; (try simp only [reduceCtorEq, dec_true, dec_false, decide_eq_true_eq, decide_eq_false_iff_not, Bool.not_eq_true', Bool.not_eq_false', Option.isNone_iff_eq_none, beq_true, beq_false, beq_iff_eq, beq_eq_false_iff_ne, ne_eq, decide_eq_decide, Bool.not_eq_true, Bool.not_eq_false, Decidable.not_not] at h); first | done | skip)))
    all_goals (first | (apply d_pass 43; (case hi => rfl); (case hg => rfl); (case hn => rfl); (case hf => kernel_rfl); (case hr => kernel_rfl); (case hd => rfl)) | (apply d_takeG 43; (case hi => rfl); (case hg => rfl); (case hop => first | (apply PureOp.read; apply p_sliceH; (case hx => rfl); (case hh => rfl); all_goals omega) | fail); (case hf => kernel_rfl); (case hr => kernel_rfl); (case hd => rfl)) | fail)
    all_goals (try (apply d_guardB 44; (case hi => rfl); (case hgd => rfl); (case h1 => rfl); (case h2 => first | rfl); all_goals (intro h; (try simp only [reduceCtorEq, dec_true, dec_false, decide_eq_true_eq, decide_eq_false_iff_not, Bool.not_eq_true', Bool.not_eq_false', Option.isNone_iff_eq_none, beq_true, beq_false, beq_iff_eq, beq_eq_false_iff_ne, ne_eq, decide_eq_decide, Bool.not_eq_true, Bool.not_eq_false, Decidable.not_not] at h); first | done | skip)))
    all_goals (first | (apply d_pass 44; (case hi => rfl); (case hg => rfl); (case hn => rfl); (case hf => kernel_rfl); (case hr => kernel_rfl); (case hd => rfl)) | (apply d_callJG 44 (hs := (q (by omega))); (case hi => rfl); (case hg => rfl); (case hr => kernel_rfl); (case ha => rfl); (case hd => rfl)) | fail)
    all_goals (try (apply d_guardB 45; (case hi => rfl); (case hgd => rfl); (case h1 => rfl); (case h2 => first | rfl); all_goals (intro h; (try simp only [reduceCtorEq, dec_true, dec_false, decide_eq_true_eq, decide_eq_false_iff_not, Bool.not_eq_true', Bool.not_eq_false', Option.isNone_iff_eq_none, beq_true, beq_false, beq_iff_eq, beq_eq_false_iff_ne, ne_eq, decide_eq_decide, Bool.not_eq_true, Bool.not_eq_false, Decidable.not_not] at h); first | done | skip)))
    all_goals (first | (apply d_pass 45; (case hi => rfl); (case hg => rfl); (case hn => rfl); (case hf => kernel_rfl); (case hr => kernel_rfl); (case hd => rfl)) | (apply d_takeG 45; (case hi => rfl); (case hg => rfl); (case hop => first | (apply PureOp.read; apply p_not <;> rfl)); (case hf => kernel_rfl); (case hr => kernel_rfl); (case hd => rfl)) | fail)
    all_goals (first | (apply d_take 46; (case hi => rfl); (case hop => first | (apply PureOp.read; apply p_pickT <;> rfl) | (apply PureOp.read; apply p_pickF <;> rfl) | fail); (case hf => kernel_rfl); (case hr => kernel_rfl); (case hd => rfl)) | fail)
    all_goals (apply d_done; (case hr => kernel_rfl))
    repeat' (first | apply v_seq | apply v_region | apply v_nil | apply v_skip | apply v_blk | (apply v_pure; (case hop => first | (apply p_move <;> rfl) | (apply p_assign <;> rfl) | (apply p_add; (case hx => rfl); (case hy => rfl); (case h => omega)) | fail); (case hd => rfl)) | (apply v_condT; (case hc => rfl)) | (apply v_cond; (case hc => rfl); all_goals (intro h; (try simp only [reduceCtorEq, dec_true, dec_false, decide_eq_true_eq, decide_eq_false_iff_not, Bool.not_eq_true', Bool.not_eq_false', Option.isNone_iff_eq_none, beq_true, beq_false, beq_iff_eq, beq_eq_false_iff_ne, ne_eq, decide_eq_decide, Bool.not_eq_true, Bool.not_eq_false, Decidable.not_not] at h); first | skip)) | fail)
    all_goals first
      | exact v_again rfl ⟨rfl, rfl, k + 1, by omega, rfl⟩ (by simp [headI]; omega)
      | (refine v_ret [] (outsA1 rfl rfl) (by repeat (first | exact List.Sublist.refl _ | fail)) ?_
         refine ⟨rfl, rfl, false, rfl, fun hh => ?_⟩
         obtain ⟨b1, b2, b3⟩ := hB hh
         first
           | (exfalso; omega)
           | exact absurd b3 (of_decide_eq_false (hsb.trans (by assumption))))
  · repeat' (first | apply v_seq | apply v_region | apply v_nil | (apply v_exit; (case hp => rfl)) | (apply v_pure; (case hop => first | (apply p_move <;> rfl) | (apply p_lt <;> rfl) | (apply p_assign <;> rfl) | (apply p_lenSlice <;> rfl) | fail); (case hd => rfl)) | (apply v_cond; (case hc => rfl); all_goals (intro h; (try simp only [reduceCtorEq, dec_true, dec_false, decide_eq_true_eq, decide_eq_false_iff_not, Bool.not_eq_true', Bool.not_eq_false', Option.isNone_iff_eq_none, beq_true, beq_false, beq_iff_eq, beq_eq_false_iff_ne, ne_eq, decide_eq_decide, Bool.not_eq_true, Bool.not_eq_false, Decidable.not_not] at h); first | (exfalso; omega) | skip)) | fail)
    refine v_ret [] (outsA1 rfl rfl) (by repeat (first | exact List.Sublist.refl _ | fail)) ?_
    exact ⟨rfl, rfl, true, rfl, fun _ => rfl⟩
end Go.Proofs.Ytgflmkhfachlcaa
/-
  disk (layer 18): steps: the program's and the reference's; large ones; awake.
-/
set_option linter.unusedSimpArgs false
set_option linter.unusedVariables false
namespace Go.Proofs.Ytgflmkhfachlcaa
open Go.Vx Go.ChangeShapes Go.WideShapes Go.ChangeAt Go.RowKit
structure Stp where
  kind : Int
  no : Int
  n : Int
  data : List Int
def StR (G : GH) (x : Stp) (cs : List Value) : Prop := ∃ A c, cs = [.int .i64 x.kind, .int .i64 x.no, .int .i64 x.n, .slice A x.data.length c] ∧ Bs G (.slice A x.data.length c) x.data
theorem StR.le {G G' : GH} (h : GH.le G G') {x : Stp} {cs : List Value} (hx : StR G x cs) : StR G' x cs := let ⟨A, c, h1, h2⟩ := hx; ⟨A, c, h1, h2.mono h⟩
abbrev Sts (G : GH) (v : Value) (l : List Stp) : Prop := Sl G 4 (StR G) v l
theorem Sts.up {G G' : GH} (h : GH.le G G') {v : Value} {l : List Stp} (hs : Sts G v l) : Sts G' v l := hs.le h fun _ _ hx => hx.le h
theorem stOpen {G : GH} {v : Value} {l : List Stp} (h : Sts G v l) : ∃ A c, ∃ dA : Nat → Option Addr, ∃ dc : Nat → Nat, v = .slice A l.length c ∧ l.length ≤ c ∧ c ≤ maxLen ∧ (0 < l.length → A.isSome = true) ∧
    (∀ i (h : i < l.length), CellsG G ((adr A).add (i * 4)) [.int .i64 l[i].kind, .int .i64 l[i].no, .int .i64 l[i].n, .slice (dA i) l[i].data.length (dc i)]) ∧ (∀ i (h : i < l.length), Bs G (.slice (dA i) l[i].data.length (dc i)) l[i].data) := by
  obtain ⟨A, c, rfl, h1, h2, h3, h4⟩ := h.open
  have hk : ∀ i, ∃ p : Option Addr × Nat, ∀ h : i < l.length, CellsG G ((adr A).add (i * 4)) [.int .i64 l[i].kind, .int .i64 l[i].no, .int .i64 l[i].n, .slice p.1 l[i].data.length p.2] ∧ Bs G (.slice p.1 l[i].data.length p.2) l[i].data := fun i => by
    by_cases hi : i < l.length
    · obtain ⟨cs, _, ⟨B, d, rfl, h6⟩, h5⟩ := h4 i _ (List.getElem?_eq_getElem hi)
      exact ⟨(B, d), fun _ => ⟨h5, h6⟩⟩
    · exact ⟨(none, 0), fun h => absurd h hi⟩
  refine ⟨A, c, fun i => (Classical.choose (hk i)).1, fun i => (Classical.choose (hk i)).2, rfl, h1, h2, h3, fun i hi => ?_, fun i hi => ?_⟩
  · exact (Classical.choose_spec (hk i) hi).1
  · exact (Classical.choose_spec (hk i) hi).2
def SmallS (l : List Stp) : Prop := l.length ≤ 60 ∧ ∀ x ∈ l, x.data.length ≤ 100
theorem large_s {G : GH} {v : Value} {l : List Stp} (hs : Sts G v l) : Con Try.prog 22 #[v] G [] (fun r G' μ' => G' = G ∧ μ' = [] ∧ ∃ b, r = .bool b ∧ (b = false → SmallS l)) := by
  obtain ⟨A, c, dA, dc, rfl, hlc, hcm, hsome, hcl, hbs⟩ := stOpen hs
  simp only [maxLen] at hcm
  (refine v_enter Try.func22 rfl Try.ntmps22 rfl ?_; intro B _)
  repeat' (first | apply v_seq | apply v_region | apply v_nil | apply v_block | (apply v_pure; (case hop => first | (apply p_assign <;> rfl) | fail); (case hd => rfl)) | fail)
  refine v_loop [3, 0] (fun us G' μ' => G' = G ∧ μ' = [] ∧ ∃ k : Nat, k ≤ l.length ∧ us = [Value.int .i64 (k : Nat), .slice A l.length c] ∧ ∀ i (h : i < l.length), i < k → l[i].data.length ≤ 100) (fun us => l.length - (headI us).toNat) rfl ⟨rfl, rfl, 0, by omega, rfl, by omega⟩ ?_
  rintro us G' μ' ⟨rfl, rfl, k, hk, rfl, hno⟩
  by_cases hlt : k < l.length ∧ k < 60
  · obtain ⟨hlt, h60⟩ := hlt
    have e1 : ((k : Nat) : Int).toNat = k := by omega
    have hA := hsome (by omega)
    have h3 := (hcl k hlt).cell (j := 3) rfl
    have hno2 : l[k].data.length ≤ 100 → ∀ i (h : i < l.length), i < k + 1 → l[i].data.length ≤ 100 := fun h i hi hik => by
      by_cases e : i = k
      · subst e; exact h
      · exact hno i hi (by omega)
    generalize l[k] = f at *
    obtain ⟨kind, no, n, data⟩ := f
    simp only at *
    repeat' (first | apply v_seq | apply v_region | apply v_nil | apply v_skip | apply v_block | apply v_blk | (apply v_take; (case hg => rfl)) | (apply v_pure; (case hop => first | (apply p_move <;> rfl) | (apply p_lt <;> rfl) | (apply p_gt <;> rfl) | (apply p_assign <;> rfl) | (apply p_pickT <;> rfl) | (apply p_lenSlice <;> rfl) | (apply p_fieldAddr <;> rfl) | (apply p_add; (case hx => rfl); (case hy => rfl); (case h => omega)) | (apply p_indexAddrS; (case hx => rfl); (case hi => rfl); (case h0 => omega); (case h => omega); (case hA => first | assumption | fail)) | fail); (case hd => rfl)) | (apply v_cond; (case hc => rfl); all_goals (intro h; (try simp only [reduceCtorEq, dec_true, dec_false, decide_eq_true_eq, decide_eq_false_iff_not, Bool.not_eq_true', Bool.not_eq_false', Option.isNone_iff_eq_none, beq_true, beq_false, beq_iff_eq, beq_eq_false_iff_ne, ne_eq, decide_eq_decide, Bool.not_eq_true, Bool.not_eq_false, Decidable.not_not] at h); first | (exfalso; omega) | skip)) | (apply v_guardB; (case h1 => rfl); (case h2 => rfl); all_goals (intro h; (try simp only [reduceCtorEq, dec_true, dec_false, decide_eq_true_eq, decide_eq_false_iff_not, Bool.not_eq_true', Bool.not_eq_false', Option.isNone_iff_eq_none, beq_true, beq_false, beq_iff_eq, beq_eq_false_iff_ne, ne_eq, decide_eq_decide, Bool.not_eq_true, Bool.not_eq_false, Decidable.not_not] at h); first | (exfalso; omega) | skip)) | (apply v_read; (case hop => (apply r_load1; rfl; exact Cell.frozen h3)); (case hd => rfl)) | fail)
    · refine v_ret [] (outsA1 rfl rfl) (by repeat (first | exact List.Sublist.refl _ | fail)) ?_
      exact ⟨rfl, rfl, true, rfl, fun h => by cases h⟩
    · exact v_again rfl ⟨rfl, rfl, k + 1, by omega, rfl, hno2 (by omega)⟩ (by simp [headI]; omega)
  · repeat' (first | apply v_seq | apply v_region | apply v_nil | (apply v_exit; (case hp => rfl)) | (apply v_take; (case hg => rfl)) | (apply v_pass; (case hg => rfl); (case hn => rfl); (case hd => rfl)) | (apply v_pure; (case hop => first | (apply p_move <;> rfl) | (apply p_lt <;> rfl) | (apply p_gt <;> rfl) | (apply p_assign <;> rfl) | (apply p_pickT <;> rfl) | (apply p_pickF <;> rfl) | (apply p_lenSlice <;> rfl) | fail); (case hd => rfl)) | (apply v_condF; (case hc => rfl)) | (apply v_cond; (case hc => rfl); all_goals (intro h; (try simp only [reduceCtorEq, dec_true, dec_false, decide_eq_true_eq, decide_eq_false_iff_not, Bool.not_eq_true', Bool.not_eq_false', Option.isNone_iff_eq_none, beq_true, beq_false, beq_iff_eq, beq_eq_false_iff_ne, ne_eq, decide_eq_decide, Bool.not_eq_true, Bool.not_eq_false, Decidable.not_not] at h); first | (exfalso; omega) | skip)) | (apply v_guardB; (case h1 => rfl); (case h2 => rfl); all_goals (intro h; (try simp only [reduceCtorEq, dec_true, dec_false, decide_eq_true_eq, decide_eq_false_iff_not, Bool.not_eq_true', Bool.not_eq_false', Option.isNone_iff_eq_none, beq_true, beq_false, beq_iff_eq, beq_eq_false_iff_ne, ne_eq, decide_eq_decide, Bool.not_eq_true, Bool.not_eq_false, Decidable.not_not] at h); first | skip)) | fail)
    all_goals
      (refine v_ret [] (outsA1 rfl rfl) (by repeat (first | exact List.Sublist.refl _ | fail)) ?_
       refine ⟨rfl, rfl, _, rfl, fun h => ?_⟩
       have h2 := dec_false.1 h
       refine ⟨by omega, fun x hx => ?_⟩
       obtain ⟨i, hi, rfl⟩ := List.getElem_of_mem hx
       exact hno i hi (by omega))
def pl (l : List Dop) (s : Stp) : List Dop := if s.kind = 1 then (if inNo s.no then l ++ [⟨1, s.no, []⟩] else l) else if s.kind = 2 then (if inNo s.no then l ++ [⟨2, s.no, s.data⟩] else l) else if s.kind = 3 then (if inNo s.no then l ++ [⟨3, s.no, []⟩] else l) else if s.kind = 4 ∨ s.kind = 5 then [] else l
def pg (g : Fs) (l : List Dop) (s : Stp) : Fs := if s.kind = 4 then gall g l else if s.kind = 5 then gcrash g l s.no s.n else g
def OkL (l : List Dop) : Prop := (∀ x ∈ l, x.data.length ≤ 100) ∧ (∀ x ∈ l, inNo x.no) ∧ ∀ x ∈ l, 1 ≤ x.kind ∧ x.kind ≤ 3
theorem OkL.nil : OkL [] := by simp [OkL]
theorem OkL.snoc {l : List Dop} {x : Dop} (h : OkL l) (h1 : x.data.length ≤ 100) (h2 : inNo x.no) (h3 : 1 ≤ x.kind ∧ x.kind ≤ 3) : OkL (l ++ [x]) := by
  refine ⟨fun y hy => ?_, fun y hy => ?_, fun y hy => ?_⟩ <;> rcases List.mem_append.1 hy with hy | hy
  · exact h.1 y hy
  · rw [List.mem_singleton] at hy; subst hy; exact h1
  · exact h.2.1 y hy
  · rw [List.mem_singleton] at hy; subst hy; exact h2
  · exact h.2.2 y hy
  · rw [List.mem_singleton] at hy; subst hy; exact h3
/-- A disk behind some steps (s of them at most). -/
def DkP (G : GH) (d m : Nat) (g : Fs) (l : List Dop) (s : Nat) (μ : OH) : Prop := OkL l ∧ ∃ (N : Nat) (ml : List (Int × Value)) (oM : Obj) (ov : Value) (ν : OH), MapB keyI ml oM ∧ MF G ml g ∧ Bd g N ∧ N + 100 * l.length ≤ 100 * s ∧ ml.length + l.length ≤ s ∧ GrL 84 3 (OpR G) ov l ν ∧ μ = (d, dkO m ov) :: (m, oM) :: ν
theorem DkP.up {G G' : GH} (hle : GH.le G G') {d m : Nat} {g : Fs} {l : List Dop} {s : Nat} {μ : OH} (h : DkP G d m g l s μ) : DkP G' d m g l s μ := by
  obtain ⟨h0, N, ml, oM, ov, ν, h1, h2, h3, h4, h5, h6, h7⟩ := h
  exact ⟨h0, N, ml, oM, ov, ν, h1, h2.up hle, h3, h4, h5, h6.le fun _ _ h => h.le hle, h7⟩
theorem ddo_s {G : GH} {d m : Nat} {g : Fs} {l : List Dop} {s : Nat} {μ : OH} {kind no n : Int} {A : Option Addr} {c : Nat} {data : List Int} (hP : DkP G d m g l s μ) (hs : s ≤ 100) (hb : Bs G (.slice A data.length c) data) (hd : data.length ≤ 100) :
    Con Try.prog 25 #[.pointer (some ⟨d, 0, none⟩), .agg [.int .i64 kind, .int .i64 no, .int .i64 n, .slice A data.length c].toArray] G μ (fun _ G' μ' => GH.le G G' ∧ DkP G' d m (pg g l ⟨kind, no, n, data⟩) (pl l ⟨kind, no, n, data⟩) (s + 1) μ') := by
  obtain ⟨hOk, N, ml, oM, ov, ν, hM, hF, hN, hb1, hb2, hg, rfl⟩ := hP
  have hput : ∀ (k : Int) (b : List Int) (G' : GH) (μ' : OH), 1 ≤ k ∧ k ≤ 3 → b.length ≤ 100 → PutP m d G (if inNo no then l ++ [⟨k, no, b⟩] else l) G' μ' → GH.le G G' ∧ ∃ ov' ν', μ' = (d, dkO m ov') :: ν' ∧ DkP G' d m g (if inNo no then l ++ [⟨k, no, b⟩] else l) (s + 1) ((d, dkO m ov') :: (m, oM) :: ν') := by
    rintro k b G' μ' hk hbl ⟨hle, ov', ν', hg', rfl⟩
    refine ⟨hle, ov', ν', rfl, ?_, N, ml, oM, ov', ν', hM, hF.up hle, hN, ?_, ?_, hg', rfl⟩
    · split
      · exact hOk.snoc hbl (by assumption) hk
      · exact hOk
    · split
      · rw [List.length_append, List.length_singleton]; omega
      · omega
    · split
      · rw [List.length_append, List.length_singleton]; omega
      · omega
  have hemp : ∀ (g' : Fs) (G' : GH) (μ' : OH), Emptied m d G ml l.length (N + 100 * l.length) g' G' μ' → GH.le G G' ∧ DkP G' d m g' [] (s + 1) μ' := by
    rintro g' G' μ' ⟨hle, ml', oM', h1, h2, h3, h4, rfl⟩
    exact ⟨hle, OkL.nil, N + 100 * l.length, ml', oM', _, [], h1, h2, h3, by simp only [List.length_nil]; omega, by simp only [List.length_nil]; omega, GrL.nil, rfl⟩
  have hll : l.length ≤ 100 := by omega
  (refine v_enter Try.func25 rfl Try.ntmps25 rfl ?_; intro B _)
  repeat' (first | apply v_seq | apply v_region | apply v_nil | apply v_skip | apply v_block | apply v_blk | (apply v_pure; (case hop => first | (apply p_move <;> rfl) | (apply p_eq <;> rfl) | (apply p_assign <;> rfl) | (apply p_fieldAddrB <;> rfl) | fail); (case hd => rfl)) | (apply v_cond; (case hc => rfl); all_goals (intro h; (try simp only [reduceCtorEq, dec_true, dec_false, decide_eq_true_eq, decide_eq_false_iff_not, Bool.not_eq_true', Bool.not_eq_false', Option.isNone_iff_eq_none, beq_true, beq_false, beq_iff_eq, beq_eq_false_iff_ne, ne_eq, decide_eq_decide, Bool.not_eq_true, Bool.not_eq_false, Decidable.not_not] at h); first | skip)) | (apply v_box (zs := [.int .i64 kind, .int .i64 no, .int .i64 n, .slice A data.length c]); (case hx => rfl); (case hz => rfl); (case hd => rfl); intro b) | (apply v_read; (case hop => first | (apply r_load1; rfl; (apply Cell.own; (case h => (repeat (first | exact List.Mem.head _ | fail))); rfl)) | fail); (case hd => rfl)) | fail)
  · refine v_call (μ1 := (d, dkO m ov) :: ν) (μ2 := [(b, .cells [.int .i64 kind, .int .i64 no, .int .i64 n, .slice A data.length c].toArray 51 (0, 0)), (m, oM)]) rfl (make_s (m := m) no hg (by omega)) (by apply perm_of_count; intro p; simp only [List.append_eq, List.countP_append, List.countP_cons, List.countP_nil, Nat.zero_add, Nat.add_zero]; try ac_rfl) rfl ?_
    rintro _ G1 μ1 - hPut
    obtain ⟨hle, ov', ν', rfl, hD⟩ := hput 1 [] G1 μ1 (by omega) (by first | (simp; done) | fail) hPut
    repeat' (first | apply v_nil | apply v_blk | fail)
    refine v_perm (ν := (b, .cells [.int .i64 kind, .int .i64 no, .int .i64 n, .slice A data.length c].toArray 51 (0, 0)) :: (d, dkO m ov') :: (m, oM) :: ν') (by apply perm_of_count; intro p; simp only [List.append_eq, List.countP_append, List.countP_cons, List.countP_nil, Nat.zero_add, Nat.add_zero]; try ac_rfl) ?_
    refine v_drop (List.sublist_cons_self _ _) ?_
    refine v_end ((d, dkO m ov') :: (m, oM) :: ν') (outsA0 rfl) (List.Sublist.refl _) ⟨hle, ?_⟩
    have h0 : kind = 1 := by assumption
    subst h0
    exact hD
  · refine v_call (μ1 := (d, dkO m ov) :: ν) (μ2 := [(b, .cells [.int .i64 kind, .int .i64 no, .int .i64 n, .slice A data.length c].toArray 51 (0, 0)), (m, oM)]) rfl (add_s (m := m) no hg (by omega) hb hd) (by apply perm_of_count; intro p; simp only [List.append_eq, List.countP_append, List.countP_cons, List.countP_nil, Nat.zero_add, Nat.add_zero]; try ac_rfl) rfl ?_
    rintro _ G1 μ1 - hPut
    obtain ⟨hle, ov', ν', rfl, hD⟩ := hput 2 data G1 μ1 (by omega) (by first | omega) hPut
    repeat' (first | apply v_nil | apply v_blk | fail)
    refine v_perm (ν := (b, .cells [.int .i64 kind, .int .i64 no, .int .i64 n, .slice A data.length c].toArray 51 (0, 0)) :: (d, dkO m ov') :: (m, oM) :: ν') (by apply perm_of_count; intro p; simp only [List.append_eq, List.countP_append, List.countP_cons, List.countP_nil, Nat.zero_add, Nat.add_zero]; try ac_rfl) ?_
    refine v_drop (List.sublist_cons_self _ _) ?_
    refine v_end ((d, dkO m ov') :: (m, oM) :: ν') (outsA0 rfl) (List.Sublist.refl _) ⟨hle, ?_⟩
    have h0 : kind = 2 := by assumption
    subst h0
    exact hD
  · refine v_call (μ1 := (d, dkO m ov) :: ν) (μ2 := [(b, .cells [.int .i64 kind, .int .i64 no, .int .i64 n, .slice A data.length c].toArray 51 (0, 0)), (m, oM)]) rfl (ddrop_s (m := m) no hg (by omega)) (by apply perm_of_count; intro p; simp only [List.append_eq, List.countP_append, List.countP_cons, List.countP_nil, Nat.zero_add, Nat.add_zero]; try ac_rfl) rfl ?_
    rintro _ G1 μ1 - hPut
    obtain ⟨hle, ov', ν', rfl, hD⟩ := hput 3 [] G1 μ1 (by omega) (by first | (simp; done) | fail) hPut
    repeat' (first | apply v_nil | apply v_blk | fail)
    refine v_perm (ν := (b, .cells [.int .i64 kind, .int .i64 no, .int .i64 n, .slice A data.length c].toArray 51 (0, 0)) :: (d, dkO m ov') :: (m, oM) :: ν') (by apply perm_of_count; intro p; simp only [List.append_eq, List.countP_append, List.countP_cons, List.countP_nil, Nat.zero_add, Nat.add_zero]; try ac_rfl) ?_
    refine v_drop (List.sublist_cons_self _ _) ?_
    refine v_end ((d, dkO m ov') :: (m, oM) :: ν') (outsA0 rfl) (List.Sublist.refl _) ⟨hle, ?_⟩
    have h0 : kind = 3 := by assumption
    subst h0
    exact hD
  · refine v_call (μ1 := (d, dkO m ov) :: (m, oM) :: ν) (μ2 := [(b, .cells [.int .i64 kind, .int .i64 no, .int .i64 n, .slice A data.length c].toArray 51 (0, 0))]) rfl (sync_s hM hF hN hg (by omega) hOk.1 hOk.2.1 (by omega)) (by apply perm_of_count; intro p; simp only [List.append_eq, List.countP_append, List.countP_cons, List.countP_nil, Nat.zero_add, Nat.add_zero]; try ac_rfl) rfl ?_
    rintro _ G1 μ1 - hPut
    obtain ⟨hle, hD⟩ := hemp _ G1 μ1 hPut
    repeat' (first | apply v_nil | apply v_blk | fail)
    refine v_drop (List.sublist_append_left _ _) ?_
    refine v_end μ1 (outsA0 rfl) (List.Sublist.refl _) ⟨hle, ?_⟩
    have h0 : kind = 4 := by assumption
    subst h0
    exact hD
  · refine v_call (μ1 := (d, dkO m ov) :: (m, oM) :: ν) (μ2 := [(b, .cells [.int .i64 kind, .int .i64 no, .int .i64 n, .slice A data.length c].toArray 51 (0, 0))]) rfl (crash_s no n hM hF hN hg (by omega) hOk.1 hOk.2.1 (by omega)) (by apply perm_of_count; intro p; simp only [List.append_eq, List.countP_append, List.countP_cons, List.countP_nil, Nat.zero_add, Nat.add_zero]; try ac_rfl) rfl ?_
    rintro _ G1 μ1 - hPut
    obtain ⟨hle, hD⟩ := hemp _ G1 μ1 hPut
    repeat' (first | apply v_nil | apply v_blk | fail)
    refine v_drop (List.sublist_append_left _ _) ?_
    refine v_end μ1 (outsA0 rfl) (List.Sublist.refl _) ⟨hle, ?_⟩
    have h0 : kind = 5 := by assumption
    subst h0
    exact hD
  · refine v_drop (List.sublist_cons_self _ _) ?_
    refine v_end ((d, dkO m ov) :: (m, oM) :: ν) (outsA0 rfl) (List.Sublist.refl _) ⟨GH.le_refl _, ?_⟩
    have e1 : pg g l ⟨kind, no, n, data⟩ = g := by
      unfold pg
      simp only
      rw [if_neg (by assumption), if_neg (by assumption)]
    have e2 : pl l ⟨kind, no, n, data⟩ = l := by
      unfold pl
      simp only
      rw [if_neg (by assumption), if_neg (by assumption), if_neg (by assumption), if_neg]
      rintro (h | h) <;> contradiction
    rw [e1, e2]
    exact ⟨hOk, N, ml, oM, ov, ν, hM, hF, hN, by omega, by omega, hg, rfl⟩
end Go.Proofs.Ytgflmkhfachlcaa
/-
  disk (layer 18): the program is awake; a disk that is nil.
-/
set_option linter.unusedSimpArgs false
set_option linter.unusedVariables false
namespace Go.Proofs.Ytgflmkhfachlcaa
open Go.Vx Go.ChangeShapes Go.WideShapes Go.ChangeAt Go.RowKit
attribute [local semireducible] MoveOp in
theorem m_convBB {P : Program} {ty t e : TypeId} {σ : Env} {G : GH} {μ r : OH} {x : Operand} {b n c : Nat} {vs : List Value} (ht : P.underlying t = some (.slice e)) (he : P.underlying e = some (.int .u8)) (hx : Env.ev σ x = some (.slice (some ⟨b, 0, none⟩) n c)) (hp : μ.Perm ((b, .cells vs.toArray e (0, 0)) :: r)) :
    MoveOp P (.convert t t x) ty σ G μ (fun v' G' μ' => v' = .slice (some ⟨b, 0, none⟩) n c ∧ G' = G ∧ μ' = (b, .cells vs.toArray e (vs.length, vs.length + 1)) :: r) := by
  intro dst' pos af g ρ hρ w hw a K Q hK
  have hb := hw.own b _ (hp.mem_iff.2 List.mem_cons_self)
  have hsh : w.shape? b = some (e, vs.length) := by
    unfold World.shape?
    rw [hb]
    simp
  have hfr : w.freeze ⟨b, vs.length, none⟩ 1 = Go.ChangeMaps.setBlock w b (.cells vs.toArray e (vs.length, vs.length + 1)) := by
    have hlt := lt_of_heap hb
    unfold World.freeze Go.ChangeMaps.setBlock
    rw [if_neg (by decide)]
    congr 1
    apply Array.ext_getElem?
    intro i
    rw [Array.getElem?_modify, Array.getElem?_setIfInBounds]
    by_cases h : b = i
    · subst h
      rw [if_pos rfl, if_pos rfl, if_pos hlt, hb]
      simp
    · rw [if_neg h, if_neg h]
  have hr : (convert t t (.slice (some ⟨b, 0, none⟩) n c)).run P w = .ok (.slice (some ⟨b, 0, none⟩) n c) (Go.ChangeMaps.setBlock w b (.cells vs.toArray e (vs.length, vs.length + 1))) := by
    simp [convert, run_underlying ht, run_underlying he, markStringish, hsh, hfr, Result.andThen]
  have hex : (execOp ρ ⟨dst', .convert t t x, ty, pos, af, g⟩).run P w = .ok (.value (.slice (some ⟨b, 0, none⟩) n c)) (Go.ChangeMaps.setBlock w b (.cells vs.toArray e (vs.length, vs.length + 1))) := by
    simp [execOp, hρ _ _ hx, hr]
  rw [hex]
  exact hK _ _ _ _ (Step.setBlockP hw hp) ⟨rfl, rfl, rfl⟩
/-- The string of bytes that are numbers. -/
def strL (l : List Int) : ByteArray := ⟨(l.map fun n => UInt8.ofNat n.toNat).toArray⟩
attribute [local semireducible] ReadOp in
theorem r_convBS {P : Program} {ty src dst e : TypeId} {σ : Env} {G : GH} {μ : OH} {x : Operand} {A : Option Addr} {c : Nat} {l : List Int} (hS : P.underlying src = some (.slice e)) (hE : P.underlying e = some (.int .u8)) (hD : P.underlying dst = some .string) (hx : Env.ev σ x = some (.slice A l.length c)) (hs : Sl G 1 (IntR .u8) (.slice A l.length c) l) :
    ReadOp P (.convert src dst x) ty σ G μ (.string (strL l)) := by
  intro d pos af g ρ hρ w hw
  obtain ⟨A', c', hv, hlc, hcm, hsome, hel, hwf⟩ := hs.openInt
  injection hv with e1 _ e2
  subst e1; subst e2
  have key : (convert src dst (.slice A l.length c)).run P w = .ok (.string (strL l)) w := by
    cases A with
    | none =>
      have : l = [] := by
        cases l with
        | nil => rfl
        | cons a l => have := hsome (by simp); simp at this
      subst this
      exact run_convert_bytes_nil w src e hS hE _ _ dst hD
    | some a =>
      have h := run_convert_bytes_back (P := P) w src dst e a c (l.map fun n => UInt8.ofNat n.toNat) hS hE hD (fun j hj => by
        rw [List.length_map] at hj
        have h1 := (Cell.frozen (μ := μ) (hel j hj)) w hw
        have h2 := hwf _ (List.getElem_mem hj)
        simp [Lit.wf, IntKind.min, IntKind.max, IntKind.signed, IntKind.bits] at h2
        simp only [adr, Option.getD_some, Nat.mul_one] at h1
        rw [h1, List.getElem_map, UInt8.toNat_ofNat']
        congr 2
        omega)
      rw [List.length_map] at h
      exact h
  simp [execOp, hρ _ _ hx, key]
theorem Sl.ofIntsM {G : GH} {b : Nat} {k : IntKind} {e : TypeId} {l : List Int} {vs : List Value} {m : Nat × Nat} (hvs : vs = l.map (.int k ·)) (hG : G b = some (.cells vs.toArray e m)) (hw : ∀ x ∈ l, (Lit.int k x).wf = true) (hm : l.length ≤ maxLen) : Sl G 1 (IntR k) (.slice (some ⟨b, 0, none⟩) l.length l.length) l := by
  subst hvs
  refine ⟨_, _, rfl, Nat.le_refl _, hm, fun _ => ⟨_, rfl, fun i x hx => ⟨[.int k x], rfl, ⟨rfl, hw x (List.mem_of_getElem? hx)⟩, fun j u hu => ?_⟩⟩⟩
  match j, hu with
  | 0, hu =>
    simp only [List.getElem?_cons_zero, Option.some.injEq] at hu
    subst hu
    rw [add_mk, add_mk]
    simp [GH.cell?, hG, hx]
theorem rep_awake : Rep [(1, [97, 98])] (gcrash (fun _ => none) [⟨1, 1, []⟩, ⟨2, 1, [97, 98, 99]⟩] 1 2) := by
  refine ⟨List.pairwise_singleton _ _, fun k => ?_⟩
  have e : gcrash (fun _ => none) [⟨1, 1, []⟩, ⟨2, 1, [97, 98, 99]⟩] 1 2 = gdo (gall (fun _ => none) [⟨1, 1, []⟩]) ⟨2, 1, [97, 98]⟩ := by
    unfold gcrash
    rfl
  rw [e, rget_cons, rget_nil]
  unfold gdo gall
  by_cases h : k = 1
  · subst h; rfl
  · have h2 : ¬ (1 : Int) = k := fun e => h e.symm
    simp [h, h2, gdo]
theorem awake18_s {G : GH} : Con Try.prog 23 #[] G [] (fun r _ μ' => r = .bool true ∧ μ' = []) := by
  (refine v_enter Try.func23 rfl Try.ntmps23 rfl ?_; intro B _)
  repeat' (first | apply v_seq | apply v_region | apply v_nil | (apply v_pure; (case hop => first | (apply p_assign <;> rfl) | fail); (case hd => rfl)) | fail)
  refine v_call (μ1 := []) (μ2 := []) rfl dnew_s (List.Perm.refl _) rfl ?_
  rintro _ G1 _ - ⟨hG1, d, m, rfl, rfl⟩
  subst G1
  repeat' (first | apply v_seq | apply v_region | apply v_nil | (apply v_pure; (case hop => first | (apply p_move <;> rfl) | (apply p_assign <;> rfl) | fail); (case hd => rfl)) | fail)
  refine v_call (μ1 := [(d, dkO m (.slice none 0 0))]) (μ2 := [(m, .map #[] 0)]) rfl (make_s (l := []) (ν := []) 1 GrL.nil (by simp)) (List.Perm.refl _) rfl ?_
  rintro _ G2 _ - ⟨hle2, ov2, ν2, hg2, rfl⟩
  rw [if_pos (by decide)] at hg2
  repeat' (first | apply v_seq | apply v_region | apply v_nil | (apply v_pure; (case hop => first | (apply p_move <;> rfl) | fail); (case hd => rfl)) | (apply v_buildSlice; (case hz => rfl); (case hi => rfl); (case hv => (simp only [List.map_cons, List.map_nil]; repeat (first | with_reducible exact evs_nil | (apply evs_cons; (case h1 => rfl))))); (case hp => (first | (apply pk_cons; (case hc => rfl); (case hs => rfl); (case h => (first | (apply pk_cons; (case hc => rfl); (case hs => rfl); (case h => (first | (apply pk_cons; (case hc => rfl); (case hs => rfl); (case h => (first | with_reducible exact pk_nil | fail)); (case he => (first | ((repeat (first | with_reducible exact ap_nil | apply ap_cons)); done) | fail))) | fail)); (case he => (first | ((repeat (first | with_reducible exact ap_nil | apply ap_cons)); done) | fail))) | fail)); (case he => (first | ((repeat (first | with_reducible exact ap_nil | apply ap_cons)); done) | fail))) | fail)); (case hb => rfl); (case hd => rfl); intro b) | fail)
  refine v_move (m_convBB (vs := [.int .u8 97, .int .u8 98, .int .u8 99]) Try.underlying49 Try.underlying5 rfl (List.Perm.refl _)) rfl ?_
  rintro _ _ _ ⟨rfl, hG3, rfl⟩
  subst hG3
  refine v_freeze1 fun G3 hle3 hG3 => ?_
  have hb : Bs G3 (.slice (some ⟨b, 0, none⟩) 3 3) [97, 98, 99] := Sl.ofIntsM (l := [97, 98, 99]) rfl hG3 (by decide) (by simp [maxLen])
  have hg3 := hg2.le (fun _ _ h => OpR.le hle3 h)
  repeat' (fail)
  refine v_call (μ1 := (d, dkO m ov2) :: ν2) (μ2 := [(m, .map #[] 0)]) rfl (add_s (m := m) 1 hg3 (by simp) hb (by simp)) (List.Perm.refl _) rfl ?_
  rintro _ G4 _ - ⟨hle4, ov4, ν4, hg4, rfl⟩
  rw [if_pos (by decide)] at hg4
  have hcr := crash_s (G := G4) (d := d) (m := m) (N := 0) (g := fun _ => none) 1 2 MapB.nil (fun k => by rfl) (fun k b h => by cases h) hg4 (by simp) (by simp) (by decide) (by simp)
  repeat' (first | apply v_seq | apply v_region | apply v_nil | (apply v_pure; (case hop => first | (apply p_move <;> rfl) | fail); (case hd => rfl)) | fail)
  refine v_call (μ1 := (d, dkO m ov4) :: (m, .map #[] 0) :: ν4) (μ2 := []) rfl hcr (by apply perm_of_count; intro p; simp only [List.append_eq, List.countP_append, List.countP_cons, List.countP_nil, Nat.zero_add, Nat.add_zero]; try ac_rfl) rfl ?_
  rintro _ G5 _ - ⟨hle5, ml5, oM5, hM5, hF5, hN5, hl5, rfl⟩
  have hf := files_s (d := d) (m := m) (ov := .slice none 0 0) hM5 hF5 hN5 (by simp) (by simp at hl5; omega)
  repeat' (first | apply v_seq | apply v_region | apply v_nil | (apply v_pure; (case hop => first | (apply p_move <;> rfl) | fail); (case hd => rfl)) | fail)
  refine v_call (μ1 := [(d, dkO m (.slice none 0 0)), (m, oM5)]) (μ2 := []) rfl hf (List.Perm.refl _) rfl ?_
  rintro r G6 _ - ⟨hle6, R, hR, hs, -, rfl⟩
  obtain rfl := rep_ext hR rep_awake
  obtain ⟨A, c, dA, dc, rfl, hlc, hcm, hsome, hcl, hbs⟩ := flOpen hs
  have h1 : GH.cell? G6 (((adr A).add (0 * 2)).add 1) = some (.slice (dA 0) [(97 : Int), 98].length (dc 0)) := (hcl 0 (by simp)).cell (j := 1) rfl
  have hb1 : Bs G6 (.slice (dA 0) [(97 : Int), 98].length (dc 0)) [97, 98] := hbs 0 (by simp)
  rw [show ([(1, [97, 98])] : List Fl).length = 1 from rfl]
  have hA := hsome (by simp)
  have e2 : (strL [97, 98]) = ⟨#[97, 98]⟩ := rfl
  repeat' (first | apply v_seq | apply v_region | apply v_nil | (apply v_take; (case hg => rfl)) | (apply v_pure; (case hop => first | (apply p_move <;> rfl) | (apply p_eqs <;> rfl) | (apply p_assign <;> rfl) | (apply p_pickT <;> rfl) | (apply p_lenSlice <;> rfl) | (apply p_fieldAddr <;> rfl) | (apply p_indexAddrS; (case hx => rfl); (case hi => rfl); (case h0 => omega); (case h => omega); (case hA => first | assumption | fail)) | (apply p_eqS <;> rfl) | fail); (case hd => rfl)) | (apply v_read; (case hop => first | (apply r_load1; rfl; exact Cell.frozen h1) | exact r_convBS Try.underlying49 Try.underlying5 Try.underlying9 rfl hb1); (case hd => rfl)) | fail)
  refine v_ret [] (outsA1 rfl rfl) (by repeat (first | exact List.nil_sublist _ | fail)) ?_
  refine ⟨?_, rfl⟩
  rw [dec_pos e2]
set_option maxRecDepth 100000 in
theorem arg_t44 {H : Type} {enc : TypeId × Value → H} {W : World} {base : Nat} {v : Value} {d : DataW H} {p : List MemPlace} (hv : Value.okWide Try.prog W .any base 44 v) (h : DataW.Trod enc Try.prog W 0 (fun _ => true) true 44 v d p) : ∃ l, Sts (ghost W) v l := by
  refine arg_slice Try.underlying44 (by kernel_rfl) ?_ hv h
  intro fuel cs x hx
  have h1 := el_flen (n := 4) Try.underlying51 (by kernel_rfl) hx
  obtain ⟨a0, e0, -⟩ := el_fld (i := 0) (sz := 1) (by kernel_rfl) (el_int Try.underlying3) hx
  obtain ⟨a1, e1, -⟩ := el_fld (i := 1) (sz := 1) (by kernel_rfl) (el_int Try.underlying3) hx
  obtain ⟨a2, e2, -⟩ := el_fld (i := 2) (sz := 1) (by kernel_rfl) (el_int Try.underlying3) hx
  obtain ⟨m, hm⟩ := el_fld (i := 3) (sz := 1) (by kernel_rfl) (el_slice (sz := 1) Try.underlying49 (by kernel_rfl) (el_int Try.underlying5)) hx
  match cs, h1, e0, e1, e2, hm with
  | [c0, c1, c2, c3], _, e0, e1, e2, hm =>
    obtain ⟨u, hu, hl⟩ := hm
    simp only [List.drop_succ_cons, List.drop_zero, List.take_succ_cons, List.take_zero, List.cons.injEq, and_true] at e0 e1 e2 hu
    subst e0 e1 e2 hu
    obtain ⟨A, c, rfl, -⟩ := hl.open
    exact ⟨⟨a0, a1, a2, m⟩, A, c, rfl, hl⟩
abbrev IsInt (v : Value) : Prop := ∃ a, v = .int .i64 a ∧ (Lit.int .i64 a).wf = true
set_option maxRecDepth 100000 in
theorem arg_t3 {H : Type} {enc : TypeId × Value → H} {W : World} {base : Nat} {v : Value} {d : DataW H} {p : List MemPlace} (hv : Value.okWide Try.prog W .any base 3 v) (h : DataW.Trod enc Try.prog W 0 (fun _ => true) true 3 v d p) : IsInt v := arg_int Try.underlying3 hv h
end Go.Proofs.Ytgflmkhfachlcaa
/-
  disk (layer 18): a step of the reference.
-/
set_option linter.unusedSimpArgs false
set_option linter.unusedVariables false
namespace Go.Proofs.Ytgflmkhfachlcaa
open Go.Vx Go.ChangeShapes Go.WideShapes Go.ChangeAt Go.RowKit
def rcrash (R : List Fl) (l : List Dop) (keep torn : Int) : List Fl :=
  if h : clip keep l.length < l.length then
    if (l[clip keep l.length]).kind = 2 then doneR ((l.take (clip keep l.length)).foldl doneR R) { l[clip keep l.length] with data := (l[clip keep l.length]).data.take (clip torn (l[clip keep l.length]).data.length) } else (l.take (clip keep l.length)).foldl doneR R
  else l.foldl doneR R
theorem rep_crash {R : List Fl} {g : Fs} {l : List Dop} (hl : OkL l) (h : Rep R g) (keep torn : Int) : Rep (rcrash R l keep torn) (gcrash g l keep torn) := by
  unfold rcrash gcrash
  split
  · rename_i hlt
    have h1 : Rep ((l.take (clip keep l.length)).foldl doneR R) (gall g (l.take (clip keep l.length))) := rep_all (fun x hx => hl.2.2 x (List.mem_of_mem_take hx)) h
    have h2 := hl.2.2 _ (List.getElem_mem hlt)
    split
    · exact rep_done h2 h1
    · exact h1
  · exact rep_all hl.2.2 h
/-- A list of files, of so many and such long ones. -/
def FsOk (R : List Fl) (L N : Nat) : Prop := Ris R ∧ R.length ≤ L ∧ ∀ f ∈ R, f.2.length ≤ N
theorem FsOk.done {R : List Fl} {L N : Nat} {x : Dop} (h : FsOk R L N) (hx : x.data.length ≤ 100) : FsOk (doneR R x) (L + 1) (N + 100) :=
  ⟨doneR_ris h.1, by have := doneR_len (R := R) (x := x); have := h.2.1; omega, fun f hf => by have := doneL_bd h.2.2 f hf; omega⟩
theorem FsOk.all {R : List Fl} {L N : Nat} {l : List Dop} (h : FsOk R L N) (hx : ∀ x ∈ l, x.data.length ≤ 100) : FsOk (l.foldl doneR R) (L + l.length) (N + 100 * l.length) := by
  induction l generalizing R L N with
  | nil => exact h
  | cons x l ih =>
    have h1 := ih (h.done (hx x (by simp))) fun y hy => hx y (List.mem_cons_of_mem _ hy)
    refine ⟨h1.1, ?_, fun f hf => ?_⟩
    · have := h1.2.1
      simp only [List.length_cons, List.foldl_cons] at *
      omega
    · have := h1.2.2 f hf
      simp only [List.length_cons] at *
      omega
theorem FsOk.mono {R : List Fl} {L N L' N' : Nat} (h : FsOk R L N) (h1 : L ≤ L') (h2 : N ≤ N') : FsOk R L' N' := ⟨h.1, Nat.le_trans h.2.1 h1, fun f hf => Nat.le_trans (h.2.2 f hf) h2⟩
/-- The reference's disk behind some steps. -/
def rkO (fv bv : Value) : Obj := .cells [fv, bv].toArray 62 (0, 0)
def RkP (G : GH) (xb : Nat) (R : List Fl) (l : List Dop) (s : Nat) (μ : OH) : Prop := OkL l ∧ ∃ (L N : Nat) (fv bv : Value) (ν : OH), FsOk R L N ∧ L + l.length ≤ s ∧ N + 100 * l.length ≤ 100 * s ∧ Fls G fv R ∧ GrL 84 3 (OpR G) bv l ν ∧ μ = (xb, rkO fv bv) :: ν
theorem RkP.up {G G' : GH} (hle : GH.le G G') {xb : Nat} {R : List Fl} {l : List Dop} {s : Nat} {μ : OH} (h : RkP G xb R l s μ) : RkP G' xb R l s μ := by
  obtain ⟨h0, L, N, fv, bv, ν, h1, h2, h3, h4, h5, h6⟩ := h
  exact ⟨h0, L, N, fv, bv, ν, h1, h2, h3, h4.up hle, h5.le fun _ _ h => h.le hle, h6⟩
end Go.Proofs.Ytgflmkhfachlcaa
/-
  disk (layer 18): the law DiskDoes.
-/
set_option linter.unusedSimpArgs false
set_option linter.unusedVariables false
namespace Go.Proofs.Ytgflmkhfachlcaa
open Go.Vx Go.ChangeShapes Go.WideShapes Go.ChangeAt Go.RowKit
theorem OpsAt.up {G G' : GH} {μ : OH} {A : Option Addr} {l : List Dop} {dA : Nat → Option Addr} {dc : Nat → Nat} (hle : GH.le G G') (h : OpsAt G μ A l dA dc) : OpsAt G' μ A l dA dc := ⟨h.1, fun i hi => CellsAt.up (h.2.1 i hi) hle (fun _ h => h), fun i hi => (h.2.2 i hi).mono hle⟩
end Go.Proofs.Ytgflmkhfachlcaa
/-
  disk (layer 18): the law DiskCrashes.
-/
set_option linter.unusedSimpArgs false
set_option linter.unusedVariables false
namespace Go.Proofs.Ytgflmkhfachlcaa
open Go.Vx Go.ChangeShapes Go.WideShapes Go.ChangeAt Go.RowKit
theorem begins_refl (R : List Fl) : Begins R R := ⟨rfl, fun i h h' => ⟨rfl, Nat.le_refl _, List.take_length.symm⟩⟩
theorem doneL_add {x : Dop} (hk : x.kind = 2) : ∀ R : List Fl, doneL x R false = R.map fun f => if f.1 = x.no then (x.no, f.2 ++ x.data) else f
  | [] => by simp [doneL]
  | f :: R => by
    unfold doneL
    rw [if_neg (fun h => by cases h.1), doneL_add hk R, List.map_cons]
    unfold kp
    by_cases h : f.1 = x.no
    · rw [if_neg (not_not_intro h), if_pos hk, if_pos h]; rfl
    · rw [if_pos h, if_neg h]; rfl
theorem doneR_add {x : Dop} (hk : x.kind = 2) (R : List Fl) : doneR R x = R.map fun f => if f.1 = x.no then (x.no, f.2 ++ x.data) else f := by
  unfold doneR insB
  rw [decide_eq_false (fun h => by omega), doneL_add hk]
theorem begins_torn {x : Dop} (hk : x.kind = 2) (q : Nat) (R : List Fl) : Begins (doneR R { x with data := x.data.take q }) (doneR R x) := by
  rw [doneR_add (x := { x with data := x.data.take q }) hk, doneR_add hk]
  refine ⟨by simp, fun i h h' => ?_⟩
  simp only [List.getElem_map]
  split
  · refine ⟨rfl, by simp only [List.length_append, List.length_take]; omega, ?_⟩
    exact List.prefix_iff_eq_take.1 ((List.prefix_append_right_inj _).2 (List.take_prefix _ _))
  · exact ⟨rfl, Nat.le_refl _, List.take_length.symm⟩
theorem crash_begins {R R1 : List Fl} {g : Fs} {l : List Dop} (hl : OkL l) (h : Rep R g) (keep torn : Int) (h1 : Rep R1 (gcrash g l keep torn)) : ∃ i, i ≤ l.length ∧ Begins R1 ((l.take i).foldl doneR R) := by
  obtain rfl := rep_ext h1 (rep_crash hl h keep torn)
  have hcl := clip_le keep l.length
  unfold rcrash
  split
  · rename_i hlt
    split
    · rename_i hk
      refine ⟨clip keep l.length + 1, by omega, ?_⟩
      rw [List.take_succ_eq_append_getElem hlt, List.foldl_append]
      exact begins_torn hk _ _
    · exact ⟨_, hcl, begins_refl _⟩
  · exact ⟨l.length, Nat.le_refl _, by rw [List.take_length]; exact begins_refl _⟩
theorem crash_none {R R1 : List Fl} {g : Fs} {l : List Dop} (h : Rep R g) (h1 : Rep R1 (gcrash g l 0 0)) : R1 = R := by
  have e : gcrash g l 0 0 = g := by
    cases l with
    | nil => rfl
    | cons x l =>
      have h0 : ∀ n, clip 0 n = 0 := fun n => by unfold clip; omega
      unfold gcrash
      simp only [h0, List.length_cons, Nat.zero_lt_succ, dif_pos, List.getElem_cons_zero, List.take_zero]
      split
      · funext k
        unfold gdo gall
        simp only [List.foldl_nil, List.append_nil]
        split
        · rfl
        · split
          · omega
          · cases g k <;> rfl
      · rfl
  rw [e] at h1
  exact rep_ext h1 h
theorem dcrash_s {G : GH} {d m : Nat} {g : Fs} {l : List Dop} {s : Nat} {μ : OH} (keep torn : Int) (hP : DkP G d m g l s μ) (hs : s ≤ 100) :
    Con Try.prog 28 #[.pointer (some ⟨d, 0, none⟩), .int .i64 keep, .int .i64 torn] G μ (fun _ G' μ' => GH.le G G' ∧ DkP G' d m (gcrash g l keep torn) [] s μ') := by
  obtain ⟨hOk, N, ml, oM, ov, ν, hM, hF, hN, hb1, hb2, hg, rfl⟩ := hP
  refine (crash_s keep torn hM hF hN hg (by omega) hOk.1 hOk.2.1 (by omega)).mono ?_
  rintro _ G' μ' ⟨hle, ml', oM', h1, h2, h3, h4, rfl⟩
  exact ⟨hle, OkL.nil, N + 100 * l.length, ml', oM', _, [], h1, h2, h3, by simp only [List.length_nil]; omega, by simp only [List.length_nil]; omega, GrL.nil, rfl⟩
theorem diskCrashes_law {W : World} {v0 v1 v2 : Value} (g0 : ∃ l, Sts (ghost W) v0 l) (g1 : IsInt v1) (g2 : IsInt v2) : LawCon Try.prog 5 #[v0, v1, v2] W := by
  obtain ⟨l, hl⟩ := g0
  obtain ⟨keep, rfl, -⟩ := g1
  obtain ⟨torn, rfl, -⟩ := g2
  unfold LawCon
  generalize ghost W = G at *
  have ql := large_s hl
  obtain ⟨A, c, dA, dc, rfl, hlc, hcm, hsome, hcl, hbs⟩ := stOpen hl
  simp only [maxLen] at hcm
  (refine v_enter Try.func5 rfl Try.ntmps5 rfl ?_; intro B _)
  repeat' (first | apply v_seq | apply v_region | apply v_nil | (apply v_pure; (case hop => first | (apply p_move <;> rfl) | (apply p_assign <;> rfl) | fail); (case hd => rfl)) | fail)
  refine v_call (μ1 := []) (μ2 := []) rfl ql (List.Perm.refl _) rfl ?_
  rintro _ G1 _ - ⟨hG1, rfl, bb, rfl, hsm⟩
  subst hG1
  repeat' (first | apply v_seq | apply v_region | apply v_nil | apply v_skip | (apply v_cond; (case hc => rfl); all_goals (intro h; (try simp only [reduceCtorEq, dec_true, dec_false, decide_eq_true_eq, decide_eq_false_iff_not, Bool.not_eq_true', Bool.not_eq_false', Option.isNone_iff_eq_none, beq_true, beq_false, beq_iff_eq, beq_eq_false_iff_ne, ne_eq, decide_eq_decide, Bool.not_eq_true, Bool.not_eq_false, Decidable.not_not] at h); first | skip)) | fail)
  · refine v_call (μ1 := []) (μ2 := []) rfl (awake18_s) (List.Perm.refl _) rfl ?_
    rintro _ G1 _ - ⟨rfl, rfl⟩
    repeat' (first | apply v_nil | (apply v_pure; (case hop => first | (apply p_assign <;> rfl) | fail); (case hd => rfl)) | fail)
    exact v_ret [] (outsA1 rfl rfl) (List.nil_sublist _) rfl
  obtain ⟨hsm1, hsm2⟩ := hsm (by assumption)
  refine v_call (μ1 := []) (μ2 := []) rfl dnew_s (List.Perm.refl _) rfl ?_
  rintro _ G2 _ - ⟨hG2, d, m, rfl, rfl⟩
  subst hG2
  repeat' (fail)
  refine v_call (μ1 := []) (μ2 := [(d, dkO m (.slice none 0 0)), (m, .map #[] 0)]) rfl dnew_s (List.Perm.refl _) rfl ?_
  rintro _ G3 _ - ⟨hG3, d2, m2, rfl, rfl⟩
  subst hG3
  repeat' (first | apply v_seq | apply v_region | apply v_nil | apply v_block | (apply v_pure; (case hop => first | (apply p_assign <;> rfl) | fail); (case hd => rfl)) | fail)
  have hD0 : ∀ d m, DkP G3 d m (fun _ => none) [] 0 [(d, dkO m (.slice none 0 0)), (m, .map #[] 0)] := fun d m => ⟨OkL.nil, 0, [], _, _, [], MapB.nil, (fun k => by rfl), (fun k b h => by cases h), by simp, by simp, GrL.nil, rfl⟩
  refine v_perm (ν := [(d, dkO m (.slice none 0 0)), (m, .map #[] 0)] ++ [(d2, dkO m2 (.slice none 0 0)), (m2, .map #[] 0)]) (List.perm_append_comm (l₁ := [_, _])) ?_
  refine v_loop [9, 0, 7, 8, 1, 2] (fun us G' μ' => GH.le G3 G' ∧ ∃ (k : Nat) (g : Fs) (lb : List Dop) (μ1 μ2 : OH), k ≤ l.length ∧ us = [Value.int .i64 (k : Nat), .slice A l.length c, .pointer (some ⟨d, 0, none⟩), .pointer (some ⟨d2, 0, none⟩), .int .i64 keep, .int .i64 torn] ∧ DkP G' d m g lb k μ1 ∧ DkP G' d2 m2 g lb k μ2 ∧ μ' = μ1 ++ μ2) (fun us => l.length - (headI us).toNat) rfl ⟨GH.le_refl _, 0, _, [], _, _, by omega, rfl, hD0 d m, hD0 d2 m2, rfl⟩ ?_
  rintro us G' _ ⟨hle, k, g, lb, μ1, μ2, hk, rfl, hD, hR, rfl⟩
  by_cases hlt : k < l.length
  · have e1 : ((k : Nat) : Int).toNat = k := by omega
    have hA := hsome (by omega)
    have hck := (hcl k hlt).le hle
    have hbk := (hbs k hlt).mono hle
    have hxl := hsm2 _ (List.getElem_mem hlt)
    have qd := ddo_s (kind := l[k].kind) (no := l[k].no) (n := l[k].n) hD (by omega) hbk hxl
    have qr := fun G'' (hle2 : GH.le G' G'') => ddo_s (kind := l[k].kind) (no := l[k].no) (n := l[k].n) (hR.up hle2) (by omega) (hbk.mono hle2) hxl
    have hxe : (⟨l[k].kind, l[k].no, l[k].n, l[k].data⟩ : Stp) = l[k] := rfl
    rw [hxe] at qd
    rw [hxe] at qr
    generalize l[k] = x at *
    clear hxe hD hR
    repeat' (first | apply v_seq | apply v_region | apply v_nil | apply v_skip | apply v_block | (apply v_pure; (case hop => first | (apply p_move <;> rfl) | (apply p_lt <;> rfl) | (apply p_lenSlice <;> rfl) | (apply p_indexAddrS; (case hx => rfl); (case hi => rfl); (case h0 => omega); (case h => omega); (case hA => first | assumption | fail)) | fail); (case hd => rfl)) | (apply v_cond; (case hc => rfl); all_goals (intro h; (try simp only [reduceCtorEq, dec_true, dec_false, decide_eq_true_eq, decide_eq_false_iff_not, Bool.not_eq_true', Bool.not_eq_false', Option.isNone_iff_eq_none, beq_true, beq_false, beq_iff_eq, beq_eq_false_iff_ne, ne_eq, decide_eq_decide, Bool.not_eq_true, Bool.not_eq_false, Decidable.not_not] at h); first | (exfalso; omega) | skip)) | (apply v_read; (case hop => (apply r_loadN; rfl; exact CellsAt.frozen hck; rfl)); (case hd => rfl)) | fail)
    refine v_call (μ1 := μ1) (μ2 := μ2) rfl qd (List.Perm.refl _) rfl ?_
    rintro _ G4 μ3 - ⟨hle4, hD⟩
    have hck4 := hck.le hle4
    have qr4 := qr G4 hle4
    repeat' (first | apply v_region | apply v_nil | (apply v_pure; (case hop => first | (apply p_move <;> rfl) | (apply p_indexAddrS; (case hx => rfl); (case hi => rfl); (case h0 => omega); (case h => omega); (case hA => first | assumption | fail)) | fail); (case hd => rfl)) | (apply v_read; (case hop => (apply r_loadN; rfl; exact CellsAt.frozen hck4; rfl)); (case hd => rfl)) | fail)
    refine v_call (μ1 := μ2) (μ2 := μ3) rfl qr4 List.perm_append_comm rfl ?_
    rintro _ G5 μ4 hle5 ⟨-, hR⟩
    repeat' (first | apply v_region | apply v_nil | apply v_blk | (apply v_pure; (case hop => first | (apply p_move <;> rfl) | (apply p_assign <;> rfl) | (apply p_add; (case hx => rfl); (case hy => rfl); (case h => omega)) | fail); (case hd => rfl)) | fail)
    refine v_perm List.perm_append_comm ?_
    exact v_again rfl ⟨GH.le_trans hle (GH.le_trans hle4 hle5), k + 1, _, _, _, _, by omega, rfl, hD.up hle5, hR, rfl⟩ (by simp [headI]; omega)
  · obtain rfl : k = l.length := by omega
    have hOk := hD.1
    have hDc := hD
    obtain ⟨-, N, ml, oM, ov, ν, hM, hF, hN, hb1, hb2, hg, rfl⟩ := hD
    have q1 := files_s (d := d) (m := m) (ov := ov) hM hF hN (by omega) (by omega)
    repeat' (first | apply v_seq | apply v_region | apply v_nil | (apply v_exit; (case hp => rfl)) | (apply v_pure; (case hop => first | (apply p_move <;> rfl) | (apply p_lt <;> rfl) | (apply p_lenSlice <;> rfl) | fail); (case hd => rfl)) | (apply v_cond; (case hc => rfl); all_goals (intro h; (try simp only [reduceCtorEq, dec_true, dec_false, decide_eq_true_eq, decide_eq_false_iff_not, Bool.not_eq_true', Bool.not_eq_false', Option.isNone_iff_eq_none, beq_true, beq_false, beq_iff_eq, beq_eq_false_iff_ne, ne_eq, decide_eq_decide, Bool.not_eq_true, Bool.not_eq_false, Decidable.not_not] at h); first | (exfalso; omega) | skip)) | fail)
    refine v_call (μ1 := [(d, dkO m ov), (m, oM)]) (μ2 := ν ++ μ2) rfl q1 (List.Perm.refl _) rfl ?_
    rintro rw G4 _ hle4 ⟨-, Rw, hRw, hsw, hlw, rfl⟩
    have q2 := buffered_s (d := d) (m := m) (hg.le (fun _ _ h => OpR.le hle4 h)) (by omega) hOk.1
    repeat' (first | (apply v_pure; (case hop => first | (apply p_move <;> rfl) | fail); (case hd => rfl)) | fail)
    refine v_call (μ1 := (d, dkO m ov) :: ν) (μ2 := (m, oM) :: μ2) rfl q2 (by apply perm_of_count; intro p; simp only [List.append_eq, List.countP_append, List.countP_cons, List.countP_nil, Nat.zero_add, Nat.add_zero]; try ac_rfl) rfl ?_
    rintro rb G5 _ hle5 ⟨-, hbf, rfl⟩
    have hle45 := GH.le_trans hle4 hle5
    have q3 := dcrash_s keep torn (hDc.up hle45) (by omega)
    have hFw : FsOk Rw l.length (100 * l.length) := ⟨hRw.1, by omega, fun f hf => by
      have h1 := rget_mem hRw.1 hf
      rw [hRw.2] at h1
      have := hN _ _ h1
      omega⟩
    repeat' (first | apply v_seq | apply v_region | apply v_nil | (apply v_pure; (case hop => first | (apply p_move <;> rfl) | (apply p_assign <;> rfl) | fail); (case hd => rfl)) | fail)
    refine v_call (μ1 := (d, dkO m ov) :: (m, oM) :: ν) (μ2 := μ2) rfl q3 (by apply perm_of_count; intro p; simp only [List.append_eq, List.countP_append, List.countP_cons, List.countP_nil, Nat.zero_add, Nat.add_zero]; try ac_rfl) rfl ?_
    rintro _ G6 μ6 - ⟨hle6, hD6⟩
    have q4 := dcrash_s 0 0 (hR.up (GH.le_trans hle45 hle6)) (by omega)
    repeat' (first | apply v_seq | apply v_region | apply v_nil | (apply v_pure; (case hop => first | (apply p_move <;> rfl) | fail); (case hd => rfl)) | fail)
    refine v_call (μ1 := μ2) (μ2 := μ6) rfl q4 List.perm_append_comm rfl ?_
    rintro _ G7 μ7 - ⟨hle7, hR7⟩
    have hD7 := hD6.up hle7
    clear hD6 hDc hR q1 q2 q3 q4
    obtain ⟨-, N1, ml1, oM1, ov1, ν1, hM1, hF1, hN1, hb11, hb21, hg1, rfl⟩ := hD7
    obtain ⟨-, N2, ml2, oM2, ov2, ν2, hM2, hF2, hN2, hb12, hb22, hg2, rfl⟩ := hR7
    simp only [List.length_nil] at hb11 hb21 hb12 hb22
    have hsw7 := hsw.up (GH.le_trans hle5 (GH.le_trans hle6 hle7))
    have hbf7 := hbf.up (GH.le_trans hle6 hle7)
    obtain ⟨A8, c8, dA8, dc8, rfl, hA81, hA82, hO8⟩ := opsAtG hbf7
    simp only [maxLen] at hA82
    obtain ⟨A9, c9, rfl, -⟩ := id hsw7.open
    have hRc := rep_crash hOk hRw keep torn
    obtain ⟨i0, hi0, hbe0⟩ := crash_begins hOk hRw keep torn hRc
    have hq := fun G' h => files_s (G := G') (d := d) (m := m) (ov := ov1) hM1 (hF1.up h) hN1 (by omega) (by omega)
    generalize rcrash Rw lb keep torn = Rc at *
    repeat' (first | apply v_seq | apply v_region | apply v_nil | apply v_block | (apply v_pure; (case hop => first | (apply p_assign <;> rfl) | fail); (case hd => rfl)) | fail)
    refine v_perm (ν := (d, dkO m ov1) :: (m, oM1) :: (ν1 ++ ((d2, dkO m2 ov2) :: (m2, oM2) :: ν2))) (by apply perm_of_count; intro p; simp only [List.append_eq, List.countP_append, List.countP_cons, List.countP_nil, Nat.zero_add, Nat.add_zero]; try ac_rfl) ?_
    refine v_loop [13, 11, 12, 10, 7, 8] (fun us G' μ' => GH.le G7 G' ∧ μ' = (d, dkO m ov1) :: (m, oM1) :: (ν1 ++ ((d2, dkO m2 ov2) :: (m2, oM2) :: ν2)) ∧ ∃ (k : Nat) (sm : Bool), k ≤ lb.length + 1 ∧ us = [Value.int .i64 (k : Nat), .slice A8 lb.length c8, .bool sm, .slice A9 Rw.length c9, .pointer (some ⟨d, 0, none⟩), .pointer (some ⟨d2, 0, none⟩)] ∧ ∀ i, i < k → Begins Rc ((lb.take i).foldl doneR Rw) → sm = true) (fun us => lb.length + 1 - (headI us).toNat) rfl ⟨GH.le_refl _, rfl, 0, false, by omega, rfl, fun i hi => by omega⟩ ?_
    rintro us G' _ ⟨hle9, rfl, k, sm, hk9, rfl, hsm9⟩
    by_cases hlt9 : k ≤ lb.length
    · have e1 : ((k : Nat) : Int).toNat = k := by omega
      have qf := hq G' hle9
      cases sm with
      | true =>
        repeat' (first | apply v_seq | apply v_region | apply v_nil | apply v_skip | apply v_block | (apply v_pure; (case hop => first | (apply p_move <;> rfl) | (apply p_le <;> rfl) | (apply p_lenSlice <;> rfl) | fail); (case hd => rfl)) | (apply v_cond; (case hc => rfl); all_goals (intro h; (try simp only [reduceCtorEq, dec_true, dec_false, decide_eq_true_eq, decide_eq_false_iff_not, Bool.not_eq_true', Bool.not_eq_false', Option.isNone_iff_eq_none, beq_true, beq_false, beq_iff_eq, beq_eq_false_iff_ne, ne_eq, decide_eq_decide, Bool.not_eq_true, Bool.not_eq_false, Decidable.not_not] at h); first | (exfalso; omega) | skip)) | fail)
        refine d_start [] (by kernel_rfl) (by kernel_rfl) (by kernel_rfl) (by intro e he; first | (simp at he ⊢; try omega)) ?_
        all_goals (first | (apply d_take 0; (case hi => rfl); (case hop => first | (apply PureOp.read; apply p_move <;> rfl)); (case hf => kernel_rfl); (case hr => kernel_rfl); (case hd => rfl)) | fail)
        all_goals (first | (apply d_take 1; (case hi => rfl); (case hop => first | (apply PureOp.read; apply p_move <;> rfl)); (case hf => kernel_rfl); (case hr => kernel_rfl); (case hd => rfl)) | fail)
        all_goals (try (apply d_guardB 2; (case hi => rfl); (case hgd => rfl); (case h1 => rfl); (case h2 => first | rfl); all_goals (intro h; (try simp only [reduceCtorEq, dec_true, dec_false, decide_eq_true_eq, decide_eq_false_iff_not, Bool.not_eq_true', Bool.not_eq_false', Option.isNone_iff_eq_none, beq_true, beq_false, beq_iff_eq, beq_eq_false_iff_ne, ne_eq, decide_eq_decide, Bool.not_eq_true, Bool.not_eq_false, Decidable.not_not] at h); first | done | skip)))
        all_goals (first | (apply d_pass 2; (case hi => rfl); (case hg => rfl); (case hn => rfl); (case hf => kernel_rfl); (case hr => kernel_rfl); (case hd => rfl)) | fail)
        all_goals (try (apply d_guardB 4; (case hi => rfl); (case hgd => rfl); (case h1 => rfl); (case h2 => first | rfl); all_goals (intro h; (try simp only [reduceCtorEq, dec_true, dec_false, decide_eq_true_eq, decide_eq_false_iff_not, Bool.not_eq_true', Bool.not_eq_false', Option.isNone_iff_eq_none, beq_true, beq_false, beq_iff_eq, beq_eq_false_iff_ne, ne_eq, decide_eq_decide, Bool.not_eq_true, Bool.not_eq_false, Decidable.not_not] at h); first | done | skip)))
        all_goals (first | (apply d_pass 4; (case hi => rfl); (case hg => rfl); (case hn => rfl); (case hf => kernel_rfl); (case hr => kernel_rfl); (case hd => rfl)) | fail)
        all_goals (try (apply d_guardB 5; (case hi => rfl); (case hgd => rfl); (case h1 => rfl); (case h2 => first | rfl); all_goals (intro h; (try simp only [reduceCtorEq, dec_true, dec_false, decide_eq_true_eq, decide_eq_false_iff_not, Bool.not_eq_true', Bool.not_eq_false', Option.isNone_iff_eq_none, beq_true, beq_false, beq_iff_eq, beq_eq_false_iff_ne, ne_eq, decide_eq_decide, Bool.not_eq_true, Bool.not_eq_false, Decidable.not_not] at h); first | done | skip)))
        all_goals (first | (apply d_pass 5; (case hi => rfl); (case hg => rfl); (case hn => rfl); (case hf => kernel_rfl); (case hr => kernel_rfl); (case hd => rfl)) | fail)
        all_goals (try (apply d_guardB 6; (case hi => rfl); (case hgd => rfl); (case h1 => rfl); (case h2 => first | rfl); all_goals (intro h; (try simp only [reduceCtorEq, dec_true, dec_false, decide_eq_true_eq, decide_eq_false_iff_not, Bool.not_eq_true', Bool.not_eq_false', Option.isNone_iff_eq_none, beq_true, beq_false, beq_iff_eq, beq_eq_false_iff_ne, ne_eq, decide_eq_decide, Bool.not_eq_true, Bool.not_eq_false, Decidable.not_not] at h); first | done | skip)))
        all_goals (first | (apply d_pass 6; (case hi => rfl); (case hg => rfl); (case hn => rfl); (case hf => kernel_rfl); (case hr => kernel_rfl); (case hd => rfl)) | fail)
        all_goals (try (apply d_guardB 7; (case hi => rfl); (case hgd => rfl); (case h1 => rfl); (case h2 => first | rfl); all_goals (intro h; (try simp only [reduceCtorEq, dec_true, dec_false, decide_eq_true_eq, decide_eq_false_iff_not, Bool.not_eq_true', Bool.not_eq_false', Option.isNone_iff_eq_none, beq_true, beq_false, beq_iff_eq, beq_eq_false_iff_ne, ne_eq, decide_eq_decide, Bool.not_eq_true, Bool.not_eq_false, Decidable.not_not] at h); first | done | skip)))
        all_goals (first | (apply d_pass 7; (case hi => rfl); (case hg => rfl); (case hn => rfl); (case hf => kernel_rfl); (case hr => kernel_rfl); (case hd => rfl)) | fail)
        all_goals (try (apply d_guardB 3; (case hi => rfl); (case hgd => rfl); (case h1 => rfl); (case h2 => first | rfl); all_goals (intro h; (try simp only [reduceCtorEq, dec_true, dec_false, decide_eq_true_eq, decide_eq_false_iff_not, Bool.not_eq_true', Bool.not_eq_false', Option.isNone_iff_eq_none, beq_true, beq_false, beq_iff_eq, beq_eq_false_iff_ne, ne_eq, decide_eq_decide, Bool.not_eq_true, Bool.not_eq_false, Decidable.not_not] at h); first | done | skip)))
        all_goals (first | (apply d_pass 3; (case hi => rfl); (case hg => rfl); (case hn => rfl); (case hf => kernel_rfl); (case hr => kernel_rfl); (case hd => rfl)) | fail)
        all_goals (try (apply d_guardB 8; (case hi => rfl); (case hgd => rfl); (case h1 => rfl); (case h2 => first | rfl); all_goals (intro h; (try simp only [reduceCtorEq, dec_true, dec_false, decide_eq_true_eq, decide_eq_false_iff_not, Bool.not_eq_true', Bool.not_eq_false', Option.isNone_iff_eq_none, beq_true, beq_false, beq_iff_eq, beq_eq_false_iff_ne, ne_eq, decide_eq_decide, Bool.not_eq_true, Bool.not_eq_false, Decidable.not_not] at h); first | done | skip)))
        all_goals (first | (apply d_pass 8; (case hi => rfl); (case hg => rfl); (case hn => rfl); (case hf => kernel_rfl); (case hr => kernel_rfl); (case hd => rfl)) | fail)
        all_goals (try (apply d_guardB 9; (case hi => rfl); (case hgd => rfl); (case h1 => rfl); (case h2 => first | rfl); all_goals (intro h; (try simp only [reduceCtorEq, dec_true, dec_false, decide_eq_true_eq, decide_eq_false_iff_not, Bool.not_eq_true', Bool.not_eq_false', Option.isNone_iff_eq_none, beq_true, beq_false, beq_iff_eq, beq_eq_false_iff_ne, ne_eq, decide_eq_decide, Bool.not_eq_true, Bool.not_eq_false, Decidable.not_not] at h); first | done | skip)))
        all_goals (first | (apply d_pass 9; (case hi => rfl); (case hg => rfl); (case hn => rfl); (case hf => kernel_rfl); (case hr => kernel_rfl); (case hd => rfl)) | fail)
        all_goals (first | (apply d_take 10; (case hi => rfl); (case hop => first | (apply PureOp.read; apply p_pickT <;> rfl) | fail); (case hf => kernel_rfl); (case hr => kernel_rfl); (case hd => rfl)) | fail)
        all_goals (first | (apply d_take 11; (case hi => rfl); (case hop => first | (apply PureOp.read; apply p_assign <;> rfl)); (case hf => kernel_rfl); (case hr => kernel_rfl); (case hd => rfl)) | fail)
        all_goals (apply d_done; (case hr => kernel_rfl))
        repeat' (first | apply v_region | apply v_nil | apply v_blk | (apply v_pure; (case hop => first | (apply p_move <;> rfl) | (apply p_assign <;> rfl) | (apply p_add; (case hx => rfl); (case hy => rfl); (case h => omega)) | fail); (case hd => rfl)) | fail)
        exact v_again rfl ⟨hle9, rfl, k + 1, true, by omega, rfl, fun _ _ _ => rfl⟩ (by simp [headI]; omega)
      | false =>
        repeat' (first | apply v_seq | apply v_region | apply v_nil | apply v_skip | apply v_block | (apply v_pure; (case hop => first | (apply p_move <;> rfl) | (apply p_le <;> rfl) | (apply p_lenSlice <;> rfl) | fail); (case hd => rfl)) | (apply v_cond; (case hc => rfl); all_goals (intro h; (try simp only [reduceCtorEq, dec_true, dec_false, decide_eq_true_eq, decide_eq_false_iff_not, Bool.not_eq_true', Bool.not_eq_false', Option.isNone_iff_eq_none, beq_true, beq_false, beq_iff_eq, beq_eq_false_iff_ne, ne_eq, decide_eq_decide, Bool.not_eq_true, Bool.not_eq_false, Decidable.not_not] at h); first | (exfalso; omega) | skip)) | fail)
        refine d_start [] (by kernel_rfl) (by kernel_rfl) (by kernel_rfl) (by intro e he; first | (simp at he ⊢; try omega)) ?_
        all_goals (first | (apply d_take 0; (case hi => rfl); (case hop => first | (apply PureOp.read; apply p_move <;> rfl)); (case hf => kernel_rfl); (case hr => kernel_rfl); (case hd => rfl)) | fail)
        all_goals (first | (apply d_take 1; (case hi => rfl); (case hop => first | (apply PureOp.read; apply p_move <;> rfl)); (case hf => kernel_rfl); (case hr => kernel_rfl); (case hd => rfl)) | fail)
        all_goals (try (apply d_guardB 2; (case hi => rfl); (case hgd => rfl); (case h1 => rfl); (case h2 => first | rfl); all_goals (intro h; (try simp only [reduceCtorEq, dec_true, dec_false, decide_eq_true_eq, decide_eq_false_iff_not, Bool.not_eq_true', Bool.not_eq_false', Option.isNone_iff_eq_none, beq_true, beq_false, beq_iff_eq, beq_eq_false_iff_ne, ne_eq, decide_eq_decide, Bool.not_eq_true, Bool.not_eq_false, Decidable.not_not] at h); first | done | skip)))
        all_goals (first | (apply d_takeG 2; (case hi => rfl); (case hg => rfl); (case hop => first | (apply PureOp.read; apply p_move <;> rfl)); (case hf => kernel_rfl); (case hr => kernel_rfl); (case hd => rfl)) | fail)
        all_goals (try (apply d_guardB 4; (case hi => rfl); (case hgd => rfl); (case h1 => rfl); (case h2 => first | rfl); all_goals (intro h; (try simp only [reduceCtorEq, dec_true, dec_false, decide_eq_true_eq, decide_eq_false_iff_not, Bool.not_eq_true', Bool.not_eq_false', Option.isNone_iff_eq_none, beq_true, beq_false, beq_iff_eq, beq_eq_false_iff_ne, ne_eq, decide_eq_decide, Bool.not_eq_true, Bool.not_eq_false, Decidable.not_not] at h); first | done | skip)))
        all_goals (first | (apply d_takeG 4; (case hi => rfl); (case hg => rfl); (case hop => first | (apply PureOp.read; apply p_move <;> rfl)); (case hf => kernel_rfl); (case hr => kernel_rfl); (case hd => rfl)) | fail)
        all_goals (try (apply d_guardB 5; (case hi => rfl); (case hgd => rfl); (case h1 => rfl); (case h2 => first | rfl); all_goals (intro h; (try simp only [reduceCtorEq, dec_true, dec_false, decide_eq_true_eq, decide_eq_false_iff_not, Bool.not_eq_true', Bool.not_eq_false', Option.isNone_iff_eq_none, beq_true, beq_false, beq_iff_eq, beq_eq_false_iff_ne, ne_eq, decide_eq_decide, Bool.not_eq_true, Bool.not_eq_false, Decidable.not_not] at h); first | done | skip)))
        all_goals (first | (apply d_takeG 5; (case hi => rfl); (case hg => rfl); (case hop => first | (apply PureOp.read; apply p_move <;> rfl)); (case hf => kernel_rfl); (case hr => kernel_rfl); (case hd => rfl)) | fail)
        all_goals (try (apply d_guardB 6; (case hi => rfl); (case hgd => rfl); (case h1 => rfl); (case h2 => first | rfl); all_goals (intro h; (try simp only [reduceCtorEq, dec_true, dec_false, decide_eq_true_eq, decide_eq_false_iff_not, Bool.not_eq_true', Bool.not_eq_false', Option.isNone_iff_eq_none, beq_true, beq_false, beq_iff_eq, beq_eq_false_iff_ne, ne_eq, decide_eq_decide, Bool.not_eq_true, Bool.not_eq_false, Decidable.not_not] at h); first | done | skip)))
        all_goals (first | (apply d_takeG 6; (case hi => rfl); (case hg => rfl); (case hop => first | (apply PureOp.read; apply p_move <;> rfl)); (case hf => kernel_rfl); (case hr => kernel_rfl); (case hd => rfl)) | fail)
        all_goals (try (apply d_guardB 7; (case hi => rfl); (case hgd => rfl); (case h1 => rfl); (case h2 => first | rfl); all_goals (intro h; (try simp only [reduceCtorEq, dec_true, dec_false, decide_eq_true_eq, decide_eq_false_iff_not, Bool.not_eq_true', Bool.not_eq_false', Option.isNone_iff_eq_none, beq_true, beq_false, beq_iff_eq, beq_eq_false_iff_ne, ne_eq, decide_eq_decide, Bool.not_eq_true, Bool.not_eq_false, Decidable.not_not] at h); first | done | skip)))
        all_goals (first | (apply d_takeG 7; (case hi => rfl); (case hg => rfl); (case hop => first | (apply PureOp.read; apply p_sliceH; (case hx => rfl); (case hh => rfl); all_goals omega) | fail); (case hf => kernel_rfl); (case hr => kernel_rfl); (case hd => rfl)) | fail)
        all_goals (try (apply d_guardB 3; (case hi => rfl); (case hgd => rfl); (case h1 => rfl); (case h2 => first | rfl); all_goals (intro h; (try simp only [reduceCtorEq, dec_true, dec_false, decide_eq_true_eq, decide_eq_false_iff_not, Bool.not_eq_true', Bool.not_eq_false', Option.isNone_iff_eq_none, beq_true, beq_false, beq_iff_eq, beq_eq_false_iff_ne, ne_eq, decide_eq_decide, Bool.not_eq_true, Bool.not_eq_false, Decidable.not_not] at h); first | done | skip)))
        all_goals (first | ((apply d_callG 3 (hs := qf) (μ1 := [(d, dkO m ov1), (m, oM1)]) (μ2 := ν1 ++ ((d2, dkO m2 ov2) :: (m2, oM2) :: ν2)); (case hi => rfl); (case hg => rfl); (case hr => kernel_rfl);  (case ha => rfl); (case hp => exact List.Perm.refl _); (case hd => rfl); (case hν' => intro e he; cases he); rintro r1 G8 _ hle8 ⟨-, Rf, hRf, hsf, -, rfl⟩; have q6 := all_s (n := k) (c := c8) (hsw7.up (GH.le_trans hle9 hle8)) hFw.1 (OpsAt.up (GH.le_trans hle9 hle8) hO8) hlt9 (by omega) (by simp only [maxLen]; omega) (by have := hFw.2.1; omega) hOk.1 hFw.2.2 (by omega))) | fail)
        all_goals (try (apply d_guardB 8; (case hi => rfl); (case hgd => rfl); (case h1 => rfl); (case h2 => first | rfl); all_goals (intro h; (try simp only [reduceCtorEq, dec_true, dec_false, decide_eq_true_eq, decide_eq_false_iff_not, Bool.not_eq_true', Bool.not_eq_false', Option.isNone_iff_eq_none, beq_true, beq_false, beq_iff_eq, beq_eq_false_iff_ne, ne_eq, decide_eq_decide, Bool.not_eq_true, Bool.not_eq_false, Decidable.not_not] at h); first | done | skip)))
        all_goals (first | ((apply d_callG 8 (hs := q6) (μ1 := []); (case hi => rfl); (case hg => rfl); (case hr => kernel_rfl);  (case ha => rfl); (case hp => exact List.Perm.refl _); (case hd => rfl); (case hν' => intro e he; cases he); rintro r2 G9 _ hle10 ⟨-, hr2, hμ2⟩; rw [hμ2]; have q7 := begins_s (hsf.up hle10) hr2)) | fail)
        all_goals (try (apply d_guardB 9; (case hi => rfl); (case hgd => rfl); (case h1 => rfl); (case h2 => first | rfl); all_goals (intro h; (try simp only [reduceCtorEq, dec_true, dec_false, decide_eq_true_eq, decide_eq_false_iff_not, Bool.not_eq_true', Bool.not_eq_false', Option.isNone_iff_eq_none, beq_true, beq_false, beq_iff_eq, beq_eq_false_iff_ne, ne_eq, decide_eq_decide, Bool.not_eq_true, Bool.not_eq_false, Decidable.not_not] at h); first | done | skip)))
        all_goals (first | ((apply d_callG 9 (hs := q7) (μ1 := []); (case hi => rfl); (case hg => rfl); (case hr => kernel_rfl);  (case ha => rfl); (case hp => exact List.Perm.refl _); (case hd => rfl); (case hν' => intro e he; cases he); rintro _ G10 _ - ⟨hG10, hμ3, b3, rfl, hb3⟩; subst hG10; rw [hμ3])) | fail)
        all_goals (first | (apply d_take 10; (case hi => rfl); (case hop => first | (apply PureOp.read; apply p_pickF <;> rfl) | fail); (case hf => kernel_rfl); (case hr => kernel_rfl); (case hd => rfl)) | fail)
        all_goals (first | (apply d_take 11; (case hi => rfl); (case hop => first | (apply PureOp.read; apply p_assign <;> rfl)); (case hf => kernel_rfl); (case hr => kernel_rfl); (case hd => rfl)) | fail)
        all_goals (apply d_done; (case hr => kernel_rfl))
        repeat' (first | apply v_region | apply v_nil | apply v_blk | (apply v_pure; (case hop => first | (apply p_move <;> rfl) | (apply p_assign <;> rfl) | (apply p_add; (case hx => rfl); (case hy => rfl); (case h => omega)) | fail); (case hd => rfl)) | fail)
        refine v_again rfl ⟨GH.le_trans hle9 (GH.le_trans hle8 hle10), rfl, k + 1, b3, by omega, rfl, fun i hi hb => ?_⟩ (by simp [headI]; omega)
        by_cases hik : i = k
        · subst hik
          exact hb3 (by rw [rep_ext hRf hRc]; exact hb)
        · cases hsm9 i (by omega) hb
    · obtain rfl : sm = true := hsm9 i0 (by omega) hbe0
      have qb := buffered_s (d := d) (m := m) (hg1.le (fun _ _ h => OpR.le hle9 h)) (by simp) (by simp)
      have hq2 := fun G' h => files_s (G := G') (d := d2) (m := m2) (ov := ov2) hM2 (hF2.up h) hN2 (by omega) (by omega)
      repeat' (first | apply v_seq | apply v_region | apply v_nil | (apply v_exit; (case hp => rfl)) | (apply v_take; (case hg => rfl)) | (apply v_pure; (case hop => first | (apply p_move <;> rfl) | (apply p_le <;> rfl) | (apply p_lenSlice <;> rfl) | fail); (case hd => rfl)) | (apply v_cond; (case hc => rfl); all_goals (intro h; (try simp only [reduceCtorEq, dec_true, dec_false, decide_eq_true_eq, decide_eq_false_iff_not, Bool.not_eq_true', Bool.not_eq_false', Option.isNone_iff_eq_none, beq_true, beq_false, beq_iff_eq, beq_eq_false_iff_ne, ne_eq, decide_eq_decide, Bool.not_eq_true, Bool.not_eq_false, Decidable.not_not] at h); first | (exfalso; omega) | skip)) | fail)
      refine v_call (μ1 := (d, dkO m ov1) :: ν1) (μ2 := (m, oM1) :: (d2, dkO m2 ov2) :: (m2, oM2) :: ν2) rfl qb (by apply perm_of_count; intro p; simp only [List.append_eq, List.countP_append, List.countP_cons, List.countP_nil, Nat.zero_add, Nat.add_zero]; try ac_rfl) rfl ?_
      rintro rb2 G8 _ hle8 ⟨-, hbf2, rfl⟩
      obtain ⟨A3, c3, rfl, -⟩ := hbf2.open
      rw [List.length_nil]
      have hle98 := GH.le_trans hle9 hle8
      have qe := hq2 G8 hle98
      repeat' (first | (apply v_take; (case hg => rfl)) | (apply v_pure; (case hop => first | (apply p_move <;> rfl) | (apply p_eqs <;> rfl) | (apply p_pickT <;> rfl) | (apply p_lenSlice <;> rfl) | fail); (case hd => rfl)) | fail)
      refine v_call (μ1 := [(d2, dkO m2 ov2), (m2, oM2)]) (μ2 := (d, dkO m ov1) :: (m, oM1) :: (ν1 ++ ν2)) rfl qe (by apply perm_of_count; intro p; simp only [List.append_eq, List.countP_append, List.countP_cons, List.countP_nil, Nat.zero_add, Nat.add_zero]; try ac_rfl) rfl ?_
      rintro re G9 _ hle10 ⟨-, Re, hRe, hse, -, rfl⟩
      obtain rfl := crash_none hRw hRe
      have hle99 := GH.le_trans hle98 hle10
      have qg := begins_s (hsw7.up hle99) hse
      repeat' (first | (apply v_take; (case hg => rfl)) | fail)
      refine v_call (μ1 := []) rfl qg (List.Perm.refl _) rfl ?_
      rintro _ G10 _ - ⟨hG10, rfl, b3, rfl, hb3⟩
      subst hG10
      obtain rfl := hb3 (begins_refl _)
      have qe2 := hq2 G10 hle99
      repeat' (first | (apply v_take; (case hg => rfl)) | (apply v_pure; (case hop => first | (apply p_move <;> rfl) | (apply p_pickT <;> rfl) | fail); (case hd => rfl)) | fail)
      refine v_call (μ1 := [(d2, dkO m2 ov2), (m2, oM2)]) (μ2 := (d, dkO m ov1) :: (m, oM1) :: (ν1 ++ ν2)) rfl qe2 (by apply perm_of_count; intro p; simp only [List.append_eq, List.countP_append, List.countP_cons, List.countP_nil, Nat.zero_add, Nat.add_zero]; try ac_rfl) rfl ?_
      rintro re2 G11 _ hle11 ⟨-, Re2, hRe2, hse2, -, rfl⟩
      obtain rfl := rep_ext hRe hRe2
      have qg2 := begins_s hse2 (hsw7.up (GH.le_trans hle99 hle11))
      repeat' (first | (apply v_take; (case hg => rfl)) | (apply v_pure; (case hop => first | (apply p_move <;> rfl) | fail); (case hd => rfl)) | fail)
      refine v_call (μ1 := []) rfl qg2 (List.Perm.refl _) rfl ?_
      rintro _ G12 _ - ⟨hG12, rfl, b4, rfl, hb4⟩
      subst hG12
      obtain rfl := hb4 (begins_refl _)
      repeat' (first | (apply v_take; (case hg => rfl)) | (apply v_pure; (case hop => first | (apply p_move <;> rfl) | (apply p_pickT <;> rfl) | fail); (case hd => rfl)) | fail)
      refine v_call (μ1 := []) rfl awake18_s (List.Perm.refl _) rfl ?_
      rintro _ G13 _ - ⟨rfl, rfl⟩
      repeat' (first | apply v_nil | (apply v_pure; (case hop => first | (apply p_assign <;> rfl) | (apply p_pickT <;> rfl) | fail); (case hd => rfl)) | fail)
      exact v_ret [] (outsA1 rfl rfl) (List.nil_sublist _) rfl
end Go.Proofs.Ytgflmkhfachlcaa
/-
  DiskCrashes: behind any steps and a crash each file is a beginning of what it would be behind some beginning of what was buffered; with none kept just what was synced is there. Condition: none.
-/
set_option linter.unusedSimpArgs false
set_option linter.unusedVariables false
namespace Go.Proofs.Ytgflmkhfachlcaa
open Go.Vx Go.ChangeShapes Go.WideShapes Go.ChangeAt Go.RowKit
theorem diskCrashes_own : ownKnob Try.prog.godebug = none := by kernel_rfl
theorem diskCrashes_laidOut : laidOutB Try.prog = true := by kernel_rfl
theorem diskCrashes_spec : LawSpec Rows.diskCrashesSpec 3 := ⟨rfl, fun H ds h => by match ds, h with | [d0, d1, d2], _ => rfl⟩
set_option maxRecDepth 100000 in
theorem diskCrashes_lifted (os : Os) (started : os.Started) (H : Type) (enc : TypeId × Value → H) :
    ReturnsInHanded {} Try.checked os 5 .any (Rows.diskCrashesSpec.pre6 enc Try.prog Try.f5 Rows.diskCrashesRow.domain false) (Rows.diskCrashesSpec.post enc Try.prog Try.f5 false true false false) := by
  refine returnsInHanded_of_change (C := Try.checked) diskCrashes_own started (by kernel_rfl) Try.func5
    (ChangeSpec.witness6 (enc := enc) (C := Try.checked) false ⟨#[], #[.slice none 0 0, .int .i64 0, .int .i64 0], []⟩ 8 (by kernel_rfl) (by kernel_rfl) (by kernel_rfl) (by kernel_rfl)) ?_
  intro W base args ds gs before hval0 hW hcnd _
  have hval : ∀ (j : Nat) t v, Try.f5.params[j]? = some t → args[j]? = some v → Value.okWide Try.prog W .any base t v := hval0
  refine law_post diskCrashes_laidOut Try.underlying4 rfl diskCrashes_spec rfl (by kernel_rfl) hW ?_
  obtain ⟨p, q, hA0, hV, rfl, hfz, hnd⟩ := hW
  have hA : DataW.TrodAll enc Try.prog W 0 (fun _ => true) true Try.f5.params.toList args.toList ds p := hA0
  rw [Try.params5] at hA hval
  obtain ⟨v0, vs0, d0, ds0, p0, q0, hargs, rfl, rfl, h0, r0⟩ := trodAll_cons hA
  obtain ⟨v1, vs1, d1, ds1, p1, q1, rfl, rfl, rfl, h1, r1⟩ := trodAll_cons r0
  obtain ⟨v2, vs2, d2, ds2, p2, q2, rfl, rfl, rfl, h2, r2⟩ := trodAll_cons r1
  obtain ⟨rfl, rfl, rfl⟩ := trodAll_nil r2
  obtain rfl : args = #[v0, v1, v2] := by cases args; simp_all
  have g0 := arg_t44 (hval 0 44 v0 rfl rfl) h0
  have g1 := arg_t3 (hval 1 3 v1 rfl rfl) h1
  have g2 := arg_t3 (hval 2 3 v2 rfl rfl) h2
  exact diskCrashes_law g0 g1 g2
theorem diskCrashes_over : Rows.diskCrashesRow.holds Try.pinned (OpenSpec.ofChange Rows.diskCrashesSpec) :=
  OpenClaim.holds_of_wide 5 Try.f5 rfl rfl rfl rfl rfl rfl rfl ⟨rfl, rfl, rfl, rfl, rfl⟩ rfl rfl rfl rfl rfl (by kernel_rfl) Try.func5 (by kernel_rfl)
    (of_decide_eq_true (by kernel_rfl)) (by unfold Func.isWrapper; first | (rw [if_pos (by decide +kernel)]; kernel_rfl) | (rw [if_neg (by decide +kernel)]; exact ⟨rfl, rfl⟩))
    (fun os started H enc _ => diskCrashes_lifted os started H enc)
theorem diskCrashes_holds : Rows.DiskCrashesSaid := diskCrashes_over

end Go.Proofs.Ytgflmkhfachlcaa
