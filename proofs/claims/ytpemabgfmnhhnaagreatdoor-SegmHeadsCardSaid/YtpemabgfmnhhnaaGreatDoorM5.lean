/-
  entry (layer 12), the sixth part: With; the example.
-/
import Derived.Test.YtpemabgfmnhhnaaGreatDoorM4
import Derived.Test.YtpemabgfmnhhnaaGreatDoorM2
import Derived.Test.YtpemabgfmnhhnaaGreatDoorM1
import Derived.Test.YtpemabgfmnhhnaaGreatDoorM3
import VxDev
set_option linter.unusedSimpArgs false
set_option linter.unusedVariables false
namespace Go.Proofs.YtpemabgfmnhhnaaGreatDoor
open Go.Vx Go.ChangeShapes Go.WideShapes Go.ChangeAt Go.RowKit
noncomputable def withL (l : List Ent) (x : Ent) : List Ent := if hitB l x.index = true then l.set (placeN l x.index) x else l.take (placeN l x.index) ++ x :: l.drop (placeN l x.index)
theorem hitB_lt {l : List Ent} {n : Int} (h : hitB l n = true) : placeN l n < l.length := by
  unfold hitB at h
  by_cases h' : placeN l n < l.length
  · exact h'
  · rw [dif_neg h'] at h; cases h
theorem placeN_le (l : List Ent) (n : Int) : placeN l n ≤ l.length := List.countP_le_length
theorem withL_len (l : List Ent) (x : Ent) : (withL l x).length = if hitB l x.index = true then l.length else l.length + 1 := by
  unfold withL
  have := placeN_le l x.index
  split
  · simp
  · simp; omega
theorem esC_set (l : List Ent) (x : Ent) (sp : List Value) (p : Nat) (hp : p < l.length) : over (esC l ++ sp) (p * 10) x.cells = esC (l.set p x) ++ sp := by
  have e : l.set p x = l.take p ++ x :: l.drop (p + 1) := List.set_eq_take_append_cons_drop.trans (if_pos hp)
  have e1 : (esC l ++ sp).take (p * 10) = esC (l.take p) := by rw [List.take_append_of_le_length (by rw [esC_length]; omega), esC_take]
  have e2 : (esC l ++ sp).drop (p * 10 + x.cells.length) = esC (l.drop (p + 1)) ++ sp := by
    rw [cells_length, show p * 10 + 10 = (p + 1) * 10 by omega, List.drop_append_of_le_length (by rw [esC_length]; omega), esC_drop]
  rw [over, e1, e2, e, esC_append, esC_cons]
  simp
theorem with_s {G : GH} {l : List Ent} {sv : Value} (x : Ent) (hs : Es G sv l) (hr : RiseL l) (hn : l.length ≤ 200) : Con Tryz.prog 180 #[sv, .agg x.cells.toArray] G [] (fun r G' μ' => G' = G ∧ Grow 97 10 r (withL l x).length (esC (withL l x)) μ') := by
  have qp := place_s x.index hs hr
  have qc := entClone_s hs hn
  have hlp := placeN_le l x.index
  (refine v_enter Tryz.func180 rfl Tryz.ntmps180 rfl ?_; intro B _)
  repeat' (first | apply v_seq | apply v_region | apply v_nil | (apply v_pure; (case hop => first | (apply p_move <;> rfl) | (apply p_assign <;> rfl) | (apply p_fieldAddrB <;> rfl) | (apply p_extract0 <;> rfl) | (apply p_extract1 <;> rfl) | fail); (case hd => rfl)) | (apply v_box (zs := x.cells); (case hx => rfl); (case hz => rfl); (case hd => rfl); intro bx) | (apply v_callJ (hs := qp); (case ha => rfl); (case hd => rfl)) | (apply v_read; (case hop => (apply r_load1; rfl; (apply Cell.own; (case h => (repeat (exact mhd _))); rfl))); (case hd => rfl)) | fail)
  refine v_call (μ1 := []) (μ2 := _) rfl qc (List.Perm.refl _) rfl ?_
  rintro r G' μ1 _ ⟨rfl, hg⟩
  clear qp qc
  cases hh : hitB l x.index
  · have el : withL l x = l.take (placeN l x.index) ++ x :: l.drop (placeN l x.index) := by rw [withL, if_neg (by rw [hh]; decide)]
    have ell : (withL l x).length = l.length + 1 := by rw [withL_len, if_neg (by rw [hh]; decide)]
    rw [ell, el]
    generalize placeN l x.index = p at *
    obtain ⟨A, c, rfl, hc1, hc2⟩ := hg.shape
    repeat' (first | apply v_seq | apply v_region | apply v_nil | apply v_skip | (apply v_pure; (case hop => first | (apply p_move <;> rfl) | (apply p_assign <;> rfl) | fail); (case hd => rfl)) | (apply v_condF; (case hc => rfl)) | (apply v_read; (case hop => (apply r_loadNo; (case hx => rfl); (case h => (repeat (first | exact mhd _ | apply List.mem_append_right))); (case hd => (repeat (first | with_reducible exact dt_nil | apply dt_here))); (case hn => rfl))); (case hd => rfl)) | (apply v_buildSlice; (case hz => rfl); (case hi => rfl); (case hv => (simp only [List.map_cons, List.map_nil]; repeat (first | with_reducible exact evs_nil | (apply evs_cons; (case h1 => rfl))))); (case hp => (apply pk_cons; (case hc => rfl); (case hs => rfl); (case h => (with_reducible exact pk_nil)); (case he => ((repeat (first | with_reducible exact ap_nil | apply ap_cons)); done)))); (case hb => rfl); (case hd => rfl); intro b) | fail)
    refine v_call (μ1 := μ1 ++ [(b, .cells x.cells.toArray 97 (0, 0))]) (μ2 := [(bx, .cells x.cells.toArray 97 (0, 0))]) rfl (entInsert_s x b p hg hlp hn) (show List.Perm ((b, Obj.cells x.cells.toArray 97 (0, 0)) :: (μ1 ++ [(bx, Obj.cells x.cells.toArray 97 (0, 0))])) _ from (by apply perm_of_count; intro p; simp only [List.append_eq, List.countP_append, List.countP_cons, List.countP_nil, Nat.zero_add, Nat.add_zero]; try ac_rfl)) rfl ?_
    rintro r' G1 μ2 _ ⟨rfl, hg'⟩
    repeat' (first | apply v_nil | (apply v_pure; (case hop => (apply p_assign <;> rfl)); (case hd => rfl)) | fail)
    refine v_ret μ2 (outsA1 rfl rfl) (by repeat (exact List.sublist_append_left _ _)) ?_
    exact ⟨rfl, hg'⟩
  · have el : withL l x = l.set (placeN l x.index) x := by rw [withL, if_pos hh]
    have hlt := hitB_lt hh
    rw [el, List.length_set]
    generalize placeN l x.index = p at *
    obtain ⟨hxl, ⟨rfl, h0, rfl⟩ | ⟨b1, cap, spare, rfl, rfl, hc1, hc2, hc3⟩⟩ := hg
    · omega
    simp only [maxLen] at hc2
    simp only [List.singleton_append]
    rw [List.length_append, esC_length] at hc3
    repeat' (first | apply v_seq | apply v_region | apply v_nil | (apply v_pure; (case hop => first | (apply p_move <;> rfl) | (apply p_assign <;> rfl) | (apply p_indexAddr; (case hx => rfl); (case hi => rfl); (case h0 => omega); (case h => omega)) | fail); (case hd => rfl)) | (apply v_condT; (case hc => rfl)) | (apply v_read; (case hop => (apply r_loadNo; (case hx => rfl); (case h => (repeat (first | exact mhd _ | apply mtl))); (case hd => (repeat (first | with_reducible exact dt_nil | apply dt_here))); (case hn => rfl))); (case hd => rfl)) | fail)
    refine v_store (agg := true) (sz := 10) (bytes := 104) (zero := zE) (b := b1) (i := p * 10) (us := x.cells) (vs' := esC (l.set p x) ++ spare) (show some (Value.pointer (some ((⟨b1, 0, none⟩ : Addr).add (p * 10)))) = _ by rw [add_mk, Nat.zero_add]) rfl rfl rfl rfl (by (repeat (exact mhd _))) (by rw [cells_length, List.length_append, hxl]; omega) (esC_set l x spare p hlt) (by (repeat (exact Upd.here _ _))) ?_
    repeat' (first | apply v_seq | apply v_region | apply v_nil | (apply v_pure; (case hop => first | (apply p_move <;> rfl) | (apply p_assign <;> rfl) | fail); (case hd => rfl)) | fail)
    refine v_ret [(b1, _)] (outsA1 rfl rfl) (by repeat (first | exact List.nil_sublist _ | apply List.Sublist.cons_cons)) ?_
    exact ⟨rfl, by rw [esC_length, List.length_set], .inr ⟨b1, cap, spare, rfl, rfl, hc1, by simp only [maxLen]; omega, by rw [List.length_append, esC_length, List.length_set]; omega⟩⟩
theorem placeN_at {l : List Ent} (hr : RiseL l) {i : Nat} (hi : i < l.length) : placeN l l[i].index = i := by
  refine placeN_eq (by omega) (fun m h hm => hr m i hi hm) (fun m h hm => ?_)
  by_cases he : m = i
  · subst he; omega
  · have := hr i m h (by omega)
    omega
theorem hitB_at {l : List Ent} (hr : RiseL l) {i : Nat} (hi : i < l.length) : hitB l l[i].index = true := by
  unfold hitB
  simp only [placeN_at hr hi]
  rw [dif_pos hi]
  simp
theorem hitB_index {l : List Ent} {n : Int} (h : hitB l n = true) : (l[placeN l n]'(hitB_lt h)).index = n := by
  have hl := hitB_lt h
  unfold hitB at h
  rw [dif_pos hl] at h
  exact of_decide_eq_true h
def zeroE : Ent := ⟨0, 0, 0, zeroCm⟩
noncomputable def findE (l : List Ent) (n : Int) : Ent := if h : hitB l n = true then l[placeN l n]'(hitB_lt h) else zeroE
theorem find_s {G : GH} {l : List Ent} {sv : Value} (n : Int) (hs : Es G sv l) (hr : RiseL l) : Con Tryz.prog 181 #[sv, .int .i64 n] G [] (Just (.tuple [.agg (findE l n).cells.toArray, .bool (hitB l n)].toArray) G) := by
  have qp := place_s n hs hr
  obtain ⟨A, c, rfl, hlc, hcm, hsome, hcp, hcb, hcc, hok⟩ := esOpen hs
  simp only [maxLen] at hcm
  apply Con.just
  (refine v_enter Tryz.func181 rfl Tryz.ntmps181 rfl ?_; intro B _)
  cases hh : hitB l n
  · rw [hh] at qp
    repeat' (first | apply v_seq | apply v_region | apply v_nil | (apply v_pure; (case hop => first | (apply p_move <;> rfl) | (apply p_assign <;> rfl) | (apply p_not <;> rfl) | (apply p_extract0 <;> rfl) | (apply p_extract1 <;> rfl) | (apply p_build; (case hz => rfl); (case hv => (simp only [List.map_cons, List.map_nil]; repeat (with_reducible exact evs_nil))); (case hb => (apply bldL; repeat (exact bld_nil))))); (case hd => rfl)) | (apply v_condT; (case hc => rfl)) | (apply v_callJ (hs := qp); (case ha => rfl); (case hd => rfl)) | (apply v_alloc; (case hz => rfl); (case hd => rfl); intro b) | (apply v_store; (case hp => rfl); (case hx => rfl); (case hc => rfl); (case hsz => rfl); (case h1 => rfl); (case hb => (repeat (exact mhd _))); (case hfit => exact nle rfl); (case hov => ((repeat (first | with_reducible exact ov_nil | apply ov_cons)); done)); (case hu => repeat (exact Upd.here _ _))) | fail)
    refine v_retM [] (outsM_cell_tmp (vs := zeroE.cells) (e := 97) rfl rfl rfl ?_ ?_) (by repeat (exact List.nil_sublist _)) ?_
    · exact mhd _
    · rfl
    · exact ⟨by rw [findE, dif_neg (by rw [hh]; decide)], rfl⟩
  · rw [hh] at qp
    have hlt := hitB_lt hh
    repeat' (first | apply v_seq | apply v_region | apply v_nil | apply v_skip | (apply v_pure; (case hop => first | (apply p_move <;> rfl) | (apply p_assign <;> rfl) | (apply p_not <;> rfl) | (apply p_extract0 <;> rfl) | (apply p_extract1 <;> rfl) | (apply p_indexAddrS; (case hx => rfl); (case hi => rfl); (case h0 => omega); (case h => omega); (case hA => (apply_assumption; omega))) | fail); (case hd => rfl)) | (apply v_condF; (case hc => rfl)) | (apply v_callJ (hs := qp); (case ha => rfl); (case hd => rfl)) | (apply v_read; (case hop => (apply r_loadN; rfl; exact CellsAt.frozen (hcp _ (by omega)); rfl)); (case hd => rfl)) | (apply v_alloc; (case hz => rfl); (case hd => rfl); intro b) | (apply v_store; (case hp => rfl); (case hx => rfl); (case hc => rfl); (case hsz => rfl); (case h1 => rfl); (case hb => (repeat (exact mhd _))); (case hfit => exact nle rfl); (case hov => ((repeat (first | with_reducible exact ov_nil | apply ov_cons)); done)); (case hu => repeat (exact Upd.here _ _))) | fail)
    refine v_retM [] (outsM_cell_tmp (vs := (l[placeN l n]'hlt).cells) (e := 97) rfl rfl rfl ?_ ?_) (by repeat (exact List.nil_sublist _)) ?_
    · exact mhd _
    · rfl
    · exact ⟨by rw [findE, dif_pos hh], rfl⟩
def LargeB (n : Nat) (G : GH) (r : Value) (G' : GH) (μ' : OH) : Prop := G' = G ∧ μ' = [] ∧ ∃ b, r = .bool b ∧ (b = false → n ≤ 40)
theorem entLargeB_s {G : GH} {l : List Ent} {sv : Value} (hs : Es G sv l) : Con Tryz.prog 46 #[sv] G [] (LargeB l.length G) := by
  obtain ⟨A, c, rfl, hlc, hcm, hsome, hcp, hcb, hcc, hok⟩ := esOpen hs
  simp only [maxLen] at hcm
  have hz := fun i (h : i < l.length) => (hok i h).2.2.2
  simp only [Cm.ok, maxLen] at hz
  (refine v_enter Tryz.func46 rfl Tryz.ntmps46 rfl ?_; intro B _)
  repeat' (first | apply v_seq | apply v_region | apply v_nil | apply v_block | (apply v_pure; (case hop => (apply p_assign <;> rfl)); (case hd => rfl)) | fail)
  refine v_loop [3, 0] (fun us G' μ' => G' = G ∧ μ' = [] ∧ ∃ k, k ≤ l.length ∧ us = [Value.int .i64 (k : Nat), .slice A l.length c]) (fun us => l.length - (headI us).toNat) rfl ⟨rfl, rfl, 0, by omega, rfl⟩ ?_
  rintro us G' μ' ⟨rfl, rfl, k, hk, rfl⟩
  have e1 : ((k : Nat) : Int).toNat = k := by omega
  repeat' (first | apply v_seq | apply v_region | apply v_nil | apply v_skip | apply v_block | apply v_blk | (apply v_exit; (case hp => rfl)) | (apply v_take; (case hg => rfl)) | (apply v_pass; (case hg => rfl); (case hn => rfl); (case hd => rfl)) | (apply v_pure; (case hop => first | (apply p_move <;> rfl) | (apply p_lt <;> rfl) | (apply p_gt <;> rfl) | (apply p_assign <;> rfl) | (apply p_pickT <;> rfl) | (apply p_pickF <;> rfl) | (apply p_lenSlice <;> rfl) | (apply p_fieldAddrB <;> rfl) | (apply p_fieldAddr <;> rfl) | (apply p_add; (case hx => rfl); (case hy => rfl); (case h => omega)) | (apply p_indexAddrS; (case hx => rfl); (case hi => rfl); (case h0 => omega); (case h => omega); (case hA => (apply_assumption; omega))) | (apply p_lenString <;> rfl) | fail); (case hd => rfl)) | (apply v_condT; (case hc => rfl)) | (apply v_condF; (case hc => rfl)) | (apply v_cond; (case hc => rfl); all_goals (intro h; (try simp only [reduceCtorEq, zzz] at h))) | (apply v_guardB; (case h1 => rfl); (case h2 => rfl); all_goals (intro h; (try simp only [reduceCtorEq, zzz] at h))) | (apply v_read; (case hop => first | (apply r_load1; rfl; exact Cell.frozen (cmCell hcc _ (by omega) 3 _ rfl)) | (apply r_load1; rfl; exact Cell.frozen (cmCell hcc _ (by omega) 4 _ rfl)) | (apply r_load1; rfl; exact Cell.frozen (cmCell hcc _ (by omega) 5 _ rfl))); (case hd => rfl)) | fail)
  all_goals first
    | (refine v_ret [] (outsA1 rfl rfl) (by repeat (exact List.Sublist.refl _)) ?_
       refine ⟨rfl, rfl, _, rfl, fun h => ?_⟩
       first | (cases h; done) | (have := dec_false.1 h; omega))
    | (refine v_again rfl ⟨rfl, rfl, k + 1, by omega, rfl⟩ (by simp [headI]; omega))
theorem rise_of_step {l : List Ent} (h : ∀ i (hi : i < l.length), 0 < i → (l[i - 1]'(by omega)).index < l[i].index) : RiseL l := by
  intro i j hj hij
  induction j with
  | zero => omega
  | succ j ih =>
    have h1 := h (j + 1) hj (by omega)
    simp only [Nat.add_sub_cancel] at h1
    by_cases he : i = j
    · subst he; exact h1
    · have := ih (by omega) (by omega)
      omega
theorem es_drop {G : GH} {A : Option Addr} {c p : Nat} {l : List Ent} (hs : Es G (.slice A l.length c) l) (hp : p ≤ l.length) : Es G (.slice (if c = p then A else A.map (·.add (p * 10))) (l.length - p) (c - p)) (l.drop p) := by
  obtain ⟨A', c', he, h1, h2, h3⟩ := hs
  cases he
  refine ⟨_, _, by rw [List.length_drop], by rw [List.length_drop]; omega, by omega, fun h0 => ?_⟩
  rw [List.length_drop] at h0
  obtain ⟨a, rfl, h4⟩ := h3 (by omega)
  refine ⟨a.add (p * 10), by rw [if_neg (by omega)]; rfl, fun i x hx => ?_⟩
  rw [List.getElem?_drop] at hx
  obtain ⟨cs, q1, q2, q3⟩ := h4 (p + i) x hx
  refine ⟨cs, q1, q2, ?_⟩
  rw [adr_add, ← Nat.add_mul]
  exact q3
def Mine (l : List Ent) (G : GH) (r : Value) (G' : GH) (μ' : OH) : Prop := G' = G ∧ Grow 97 10 r l.length (esC l) μ'
theorem from_s {G : GH} {l : List Ent} {sv : Value} (n : Int) (hs : Es G sv l) (hr : RiseL l) (hn : l.length ≤ 200) : Con Tryz.prog 182 #[sv, .int .i64 n] G [] (Mine (l.drop (placeN l n)) G) := by
  have qp := place_s n hs hr
  have hp := placeN_le l n
  obtain ⟨A, c, rfl, hlc, hcm, -⟩ := esOpen hs
  simp only [maxLen] at hcm
  have qc := entClone_s (es_drop hs hp) (by rw [List.length_drop]; omega)
  (refine v_enter Tryz.func182 rfl Tryz.ntmps182 rfl ?_; intro B _)
  repeat' (first | apply v_seq | apply v_region | apply v_nil | (apply v_pure; (case hop => first | (apply p_move <;> rfl) | (apply p_assign <;> rfl) | (apply p_extract0 <;> rfl) | (apply p_extract1 <;> rfl) | (apply p_sliceL; (case hx => rfl); (case hl => rfl); all_goals omega) | fail); (case hd => rfl)) | (apply v_callJ (hs := qp); (case ha => rfl); (case hd => rfl)) | fail)
  refine v_call (μ1 := []) (μ2 := _) rfl qc (List.Perm.refl _) rfl ?_
  rintro r G' μ1 _ ⟨rfl, hg⟩
  repeat' (first | apply v_nil | (apply v_pure; (case hop => (apply p_assign <;> rfl)); (case hd => rfl)) | fail)
  refine v_ret _ (outsA1 rfl rfl) (by repeat (exact List.Sublist.refl _)) ?_
  exact ⟨rfl, by simpa using hg⟩
theorem placeN_lt {l : List Ent} (hr : RiseL l) {n : Int} {m : Nat} (hm : m < l.length) : m < placeN l n ↔ l[m].index < n := by
  constructor
  · intro h
    by_cases hc : l[m].index < n
    · exact hc
    · exfalso
      have := placeN_le l n
      have hle : placeN l n ≤ m := by
        have e : l = l.take m ++ l.drop m := (List.take_append_drop m l).symm
        have z : (l.drop m).countP (fun x => decide (x.index < n)) = 0 := by
          rw [List.countP_eq_zero]
          intro x hx
          obtain ⟨q, hq, rfl⟩ := List.getElem_of_mem hx
          rw [List.length_drop] at hq
          rw [List.getElem_drop]
          simp only [decide_eq_true_eq]
          by_cases h0 : q = 0
          · subst h0; exact hc
          · have := hr m (m + q) (by omega) (by omega)
            omega
        have z2 : placeN l n = (l.take m).countP (fun x => decide (x.index < n)) := by
          rw [placeN]
          conv => lhs; rw [e]
          rw [List.countP_append, z, Nat.add_zero]
        have z3 : (l.take m).countP (fun x => decide (x.index < n)) ≤ (l.take m).length := List.countP_le_length
        rw [List.length_take] at z3
        omega
      omega
  · intro h
    have e : l = l.take (m + 1) ++ l.drop (m + 1) := (List.take_append_drop (m + 1) l).symm
    have h1 : (l.take (m + 1)).countP (fun x => decide (x.index < n)) = m + 1 := by
      rw [List.countP_eq_length.2, List.length_take]
      · omega
      · intro x hx
        obtain ⟨q, hq, rfl⟩ := List.getElem_of_mem hx
        rw [List.length_take] at hq
        rw [List.getElem_take]
        simp only [decide_eq_true_eq]
        by_cases h0 : q = m
        · subst h0; exact h
        · have := hr q m hm (by omega)
          omega
    have h2 : placeN l n = m + 1 + (l.drop (m + 1)).countP (fun x => decide (x.index < n)) := by
      rw [placeN]
      conv => lhs; rw [e]
      rw [List.countP_append, h1]
    omega
theorem withL_hit {l : List Ent} {x : Ent} (h : hitB l x.index = true) : withL l x = l.set (placeN l x.index) x := by rw [withL, if_pos h]
theorem withL_no {l : List Ent} {x : Ent} (h : ¬ hitB l x.index = true) : withL l x = l.take (placeN l x.index) ++ x :: l.drop (placeN l x.index) := by rw [withL, if_neg h]
theorem withL_lo {l : List Ent} {x : Ent} {k : Nat} (hk : k ≤ placeN l x.index) : (withL l x).take k = l.take k := by
  have hp := placeN_le l x.index
  by_cases h : hitB l x.index = true
  · rw [withL_hit h, List.take_set, List.set_eq_of_length_le (by rw [List.length_take]; omega)]
  · rw [withL_no h, List.take_append_of_le_length (by rw [List.length_take]; omega), List.take_take, Nat.min_eq_left hk]
theorem withL_at (l : List Ent) (x : Ent) : (withL l x)[placeN l x.index]? = some x := by
  have hp := placeN_le l x.index
  by_cases h : hitB l x.index = true
  · rw [withL_hit h, List.getElem?_set_self (hitB_lt h)]
  · rw [withL_no h, List.getElem?_append_right (by rw [List.length_take]; omega), List.length_take, Nat.min_eq_left hp, Nat.sub_self]
    rfl
theorem withL_hi {l : List Ent} {x : Ent} {k : Nat} (hk : placeN l x.index < k) (h : hitB l x.index = true) : (withL l x)[k]? = l[k]? := by
  rw [withL_hit h, List.getElem?_set_ne (by omega)]
theorem withL_hi' {l : List Ent} {x : Ent} {k : Nat} (hk : placeN l x.index ≤ k) (h : ¬ hitB l x.index = true) : (withL l x)[k + 1]? = l[k]? := by
  have hp := placeN_le l x.index
  rw [withL_no h, List.getElem?_append_right (by rw [List.length_take]; omega), List.length_take, Nat.min_eq_left hp, show k + 1 - placeN l x.index = (k - placeN l x.index) + 1 by omega, List.getElem?_cons_succ, List.getElem?_drop, show placeN l x.index + (k - placeN l x.index) = k by omega]
theorem get_of {W l : List Ent} {a b : Nat} (h : W[a]? = l[b]?) (ha : a < W.length) : ∃ hb : b < l.length, W[a] = l[b] := by
  rw [List.getElem?_eq_getElem ha] at h
  obtain ⟨hb, e⟩ := List.getElem?_eq_some_iff.1 h.symm
  exact ⟨hb, e.symm⟩
theorem withL_lo' {l : List Ent} {x : Ent} {k : Nat} (hk : k < placeN l x.index) : (withL l x)[k]? = l[k]? := by
  have h := congrArg (·[k]?) (withL_lo (l := l) (x := x) (k := k + 1) hk)
  simpa [List.getElem?_take] using h
theorem withL_x {l : List Ent} {x : Ent} {k : Nat} (hk : k = placeN l x.index) (h : k < (withL l x).length) : (withL l x)[k] = x := by
  have h1 := withL_at l x
  rw [← hk, List.getElem?_eq_getElem h] at h1
  exact Option.some.inj h1
theorem withL_rise {l : List Ent} {x : Ent} (hr : RiseL l) : RiseL (withL l x) := by
  refine rise_of_step fun i hi h0 => ?_
  by_cases h1 : i < placeN l x.index
  · obtain ⟨ha, ea⟩ := get_of (withL_lo' h1) hi
    obtain ⟨hb, eb⟩ := get_of (withL_lo' (k := i - 1) (by omega)) (show i - 1 < (withL l x).length by omega)
    rw [ea, eb]
    exact hr _ _ ha (by omega)
  by_cases h2 : i = placeN l x.index
  · obtain ⟨hb, eb⟩ := get_of (withL_lo' (k := i - 1) (by omega)) (show i - 1 < (withL l x).length by omega)
    rw [withL_x h2 hi, eb]
    exact (placeN_lt hr hb).1 (by omega)
  by_cases hh : hitB l x.index = true
  · obtain ⟨ha, ea⟩ := get_of (withL_hi (by omega) hh) hi
    by_cases h3 : i - 1 = placeN l x.index
    · have h4 := hitB_index hh
      rw [withL_x h3 (by omega), ea, ← h4]
      exact hr _ _ ha (by omega)
    · obtain ⟨hb, eb⟩ := get_of (withL_hi (k := i - 1) (by omega) hh) (show i - 1 < (withL l x).length by omega)
      rw [ea, eb]
      exact hr _ _ ha (by omega)
  · have e0 : i = (i - 1) + 1 := by omega
    obtain ⟨ha, ea⟩ := get_of (a := i) (b := i - 1) (by have := withL_hi' (l := l) (x := x) (k := i - 1) (by omega) hh; rwa [← e0] at this) hi
    by_cases h3 : i - 1 = placeN l x.index
    · rw [withL_x h3 (by omega), ea]
      have h4 := mt (placeN_lt hr ha).2 (show ¬ i - 1 < placeN l x.index by omega)
      have h5 : l[i - 1].index ≠ x.index := fun e => hh (by rw [← e]; exact hitB_at hr ha)
      omega
    · obtain ⟨hb, eb⟩ := get_of (a := i - 1) (b := i - 2) (by have := withL_hi' (l := l) (x := x) (k := i - 2) (by omega) hh; rwa [show i - 2 + 1 = i - 1 by omega] at this) (show i - 1 < (withL l x).length by omega)
      rw [ea, eb]
      exact hr _ _ ha (by omega)
theorem withL_ok {l : List Ent} {x : Ent} (hl : ∀ y ∈ l, y.ok) (hx : x.ok) : ∀ y ∈ withL l x, y.ok := by
  intro y hy
  by_cases h : hitB l x.index = true
  · rw [withL_hit h] at hy
    rcases List.mem_or_eq_of_mem_set hy with h1 | h1
    · exact hl y h1
    · rw [h1]; exact hx
  · rw [withL_no h] at hy
    rcases List.mem_append.1 hy with h1 | h1
    · exact hl y (List.mem_of_mem_take h1)
    · rcases List.mem_cons.1 h1 with h2 | h2
      · rw [h2]; exact hx
      · exact hl y (List.mem_of_mem_drop h2)
theorem chk_all {l : List Ent} : ∀ (n k : Nat), l.length - k = n → chkK l k = 0 → ∀ i (h : i < l.length), k ≤ i → oneI l[i] = 0
  | 0, k, hn, _, i, h, hk => by omega
  | n + 1, k, hn, hc, i, h, hk => by
    have hlt : k < l.length := by omega
    rw [chkK, dif_pos hlt] at hc
    by_cases h1 : oneI l[k] ≠ 0
    · rw [if_pos h1] at hc; exact absurd hc h1
    · rw [if_neg h1] at hc
      by_cases hik : i = k
      · subst hik; exact Decidable.not_not.1 h1
      · have hnext : chkK l (k + 1) = 0 := by
          by_cases h0 : 0 < k
          · rw [dif_pos h0] at hc
            split at hc
            · cases hc
            · exact hc
          · rw [dif_neg h0] at hc; exact hc
        exact chk_all n (k + 1) (by omega) hnext i h (by omega)
theorem chk_step {l : List Ent} : ∀ (n k : Nat), l.length - k = n → chkK l k = 0 → ∀ j (hj : j < l.length), k ≤ j → ∀ (h0 : 0 < j), (l[j - 1]'(by omega)).index < l[j].index
  | 0, k, hn, h, j, hj, hkj, h0 => by omega
  | n + 1, k, hn, h, j, hj, hkj, h0 => by
    have hlt : k < l.length := by omega
    have h1 : oneI l[k] = 0 := chk_all (n + 1) k hn h k hlt (Nat.le_refl _)
    by_cases hk : ∃ h0 : 0 < k, l[k].index ≤ (l[k - 1]'(by omega)).index
    · obtain ⟨h2, h3⟩ := hk
      have := chkK_low hlt h1 h2 h3
      omega
    · have hnx := chkK_next hlt h1 fun h2 h3 => hk ⟨h2, h3⟩
      by_cases e : j = k
      · subst e
        have : ¬ l[j].index ≤ (l[j - 1]'(by omega)).index := fun h3 => hk ⟨h0, h3⟩
        omega
      · exact chk_step n (k + 1) (by omega) (by rw [← hnx]; exact h) j hj (by omega) h0
theorem chk_rise {l : List Ent} (h : chkK l 0 = 0) : RiseL l := by
  have hs := chk_step (l.length - 0) 0 rfl h
  have key : ∀ (d i : Nat) (hi : i + d + 1 < l.length), (l[i]'(by omega)).index < l[i + d + 1].index := by
    intro d
    induction d with
    | zero =>
      intro i hi
      have := hs (i + 1) (by omega) (by omega) (by omega)
      simpa using this
    | succ d ih =>
      intro i hi
      have h1 := ih i (by omega)
      have h2 := hs (i + (d + 1) + 1) hi (by omega) (by omega)
      simp only [Nat.add_sub_cancel] at h2
      exact Int.lt_trans h1 h2
  intro i j hj hij
  have := key (j - i - 1) i (by omega)
  simpa only [show i + (j - i - 1) + 1 = j by omega] using this
def ins (x : Ent) : List Ent → List Ent
  | [] => [x]
  | y :: l => if y.index < x.index then y :: ins x l else if y.index = x.index then x :: l else x :: y :: l
theorem ins_cons (x y : Ent) (l : List Ent) : ins x (y :: l) = if y.index < x.index then y :: ins x l else if y.index = x.index then x :: l else x :: y :: l := rfl
theorem rise_pw {l : List Ent} : RiseL l ↔ l.Pairwise (fun a b => a.index < b.index) := by
  rw [List.pairwise_iff_getElem]
  exact ⟨fun h i j hi hj hij => h i j hj hij, fun h i j hj hij => h i j (by omega) hj hij⟩
theorem placeN_cons (y : Ent) (l : List Ent) (n : Int) : placeN (y :: l) n = placeN l n + (if y.index < n then 1 else 0) := by
  unfold placeN
  rw [List.countP_cons]
  simp
theorem placeN_zero {l : List Ent} {n : Int} (h : ∀ x ∈ l, n ≤ x.index) : placeN l n = 0 := by
  unfold placeN
  rw [List.countP_eq_zero]
  intro x hx
  have := h x hx
  simp; omega
theorem hitB_iff {l : List Ent} (hr : RiseL l) (n : Int) : hitB l n = true ↔ ∃ x ∈ l, x.index = n := by
  induction l with
  | nil => simp [hitB]
  | cons y l ih =>
    have hp := rise_pw.1 hr
    rw [List.pairwise_cons] at hp
    have hr' := rise_pw.2 hp.2
    have ih' := ih hr'
    by_cases hy : y.index < n
    · have e : hitB (y :: l) n = hitB l n := by
        unfold hitB
        simp only [placeN_cons, if_pos hy, List.length_cons]
        by_cases hh : placeN l n < l.length
        · rw [dif_pos (by omega), dif_pos hh]
          congr 1
        · rw [dif_neg (by omega), dif_neg hh]
      rw [e, ih']
      simp only [List.mem_cons, exists_eq_or_imp]
      constructor
      · exact .inr
      · rintro (h | h)
        · omega
        · exact h
    · have e : placeN (y :: l) n = 0 := by
        refine placeN_zero fun x hx => ?_
        rw [List.mem_cons] at hx
        obtain rfl | hx := hx
        · omega
        · have := hp.1 x hx; omega
      unfold hitB
      simp only [e, List.length_cons]
      rw [dif_pos (by omega)]
      simp only [List.getElem_cons_zero, decide_eq_true_eq, List.mem_cons, exists_eq_or_imp]
      constructor
      · exact .inl
      · rintro (h | ⟨x, hx, h⟩)
        · exact h
        · have := hp.1 x hx; omega
theorem withL_ins {l : List Ent} (hr : RiseL l) (x : Ent) : withL l x = ins x l := by
  induction l with
  | nil => simp [withL, hitB, placeN, ins]
  | cons y l ih =>
    have hp := rise_pw.1 hr
    rw [List.pairwise_cons] at hp
    have hr' := rise_pw.2 hp.2
    have ih' := ih hr'
    have hh := hitB_iff hr x.index
    have hh' := hitB_iff hr' x.index
    unfold ins
    by_cases hy : y.index < x.index
    · rw [if_pos hy, ← ih']
      have e : placeN (y :: l) x.index = placeN l x.index + 1 := by rw [placeN_cons, if_pos hy]
      have eh : hitB (y :: l) x.index = hitB l x.index := by
        rw [Bool.eq_iff_iff, hh, hh']
        simp only [List.mem_cons, exists_eq_or_imp]
        constructor
        · rintro (h | h)
          · omega
          · exact h
        · exact .inr
      unfold withL
      rw [e, eh]
      split <;> simp
    · rw [if_neg hy]
      have e : placeN (y :: l) x.index = 0 := by
        refine placeN_zero fun z hz => ?_
        rw [List.mem_cons] at hz
        obtain rfl | hz := hz
        · omega
        · have := hp.1 z hz; omega
      unfold withL
      rw [e]
      by_cases he : y.index = x.index
      · rw [if_pos he, if_pos (hh.2 ⟨y, by simp, he⟩)]
        rfl
      · rw [if_neg he, if_neg]
        · rfl
        · rw [hh]
          rintro ⟨z, hz, h⟩
          rw [List.mem_cons] at hz
          obtain rfl | hz := hz
          · exact he h
          · have := hp.1 z hz; omega
theorem mem_ins {x z : Ent} : ∀ {l : List Ent}, z ∈ ins x l → z = x ∨ z ∈ l
  | [], h => by simp [ins] at h; exact .inl h
  | y :: l, h => by
    unfold ins at h
    split at h
    · rw [List.mem_cons] at h ⊢
      obtain h | h := h
      · exact .inr (.inl h)
      · obtain h | h := mem_ins h
        · exact .inl h
        · exact .inr (.inr h)
    · split at h
      · rw [List.mem_cons] at h ⊢
        obtain h | h := h
        · exact .inl h
        · exact .inr (.inr h)
      · rw [List.mem_cons] at h
        exact h
theorem rise_ins {l : List Ent} (hr : RiseL l) (x : Ent) : RiseL (ins x l) := by
  rw [← withL_ins hr]
  exact withL_rise hr
theorem rise_filter {l : List Ent} (hr : RiseL l) (p : Ent → Bool) : RiseL (l.filter p) := rise_pw.2 ((rise_pw.1 hr).filter p)
theorem drop_filter {l : List Ent} (hr : RiseL l) (n : Int) : l.drop (placeN l (n + 1)) = l.filter (fun e => decide (n < e.index)) := by
  induction l with
  | nil => simp [placeN]
  | cons y l ih =>
    have hp := rise_pw.1 hr
    rw [List.pairwise_cons] at hp
    have ih' := ih (rise_pw.2 hp.2)
    rw [placeN_cons, List.filter_cons]
    by_cases hy : y.index < n + 1
    · rw [if_pos hy, List.drop_succ_cons, ih']
      have : ¬ n < y.index := by omega
      simp [this]
    · have hy' : n < y.index := by omega
      have e : placeN l (n + 1) = 0 := placeN_zero fun z hz => by have := hp.1 z hz; omega
      rw [if_neg hy, e]
      simp only [hy', decide_true, if_true, List.drop_zero, Nat.add_zero]
      congr 1
      symm
      rw [List.filter_eq_self]
      intro z hz
      have := hp.1 z hz
      simp; omega
def lessP (r n r' n' : Int) : Prop := r < r' ∨ (r = r' ∧ n < n')
instance (r n r' n' : Int) : Decidable (lessP r n r' n') := by unfold lessP; infer_instance
abbrev twoI (a b : Int) : Obj := .cells [.int .i64 a, .int .i64 b].toArray 3 (0, 0)
theorem cmpOr_s (G : GH) (sb : Nat) (a b : Int) : Con Tryz.prog 126 #[.slice (some ⟨sb, 0, none⟩) 2 2] G [(sb, twoI a b)] (Keeps (.int .i64 (if a ≠ 0 then a else b)) G [(sb, twoI a b)]) := by
  apply Con.keeps
  (refine v_enter Tryz.func126 rfl Tryz.ntmps126 rfl ?_; intro B _)
  repeat' (first | apply v_seq | apply v_region | apply v_nil | apply v_block | (apply v_pure; (case hop => first | (apply p_move <;> rfl) | (apply p_assign <;> rfl) | (apply p_lenSlice <;> rfl) | fail); (case hd => rfl)) | fail)
  refine v_loop [8, 7, 6, 3, 2] (fun us G' μ' => G' = G ∧ μ' = [(sb, twoI a b)] ∧ ∃ k : Nat, k ≤ 2 ∧ us = [Value.int .i64 (k : Nat), .int .i64 2, .slice (some ⟨sb, 0, none⟩) 2 2, .int .i64 0, .int .i64 0] ∧ (1 ≤ k → a = 0) ∧ (2 ≤ k → b = 0)) (fun us => 3 - (headI us).toNat) rfl ⟨rfl, rfl, 0, by omega, rfl, by omega, by omega⟩ ?_
  rintro us G' μ' ⟨rfl, rfl, k, hk, rfl, h1, h2⟩
  obtain rfl | rfl | rfl : k = 0 ∨ k = 1 ∨ k = 2 := by omega
  · repeat' (first | apply v_seq | apply v_region | apply v_nil | apply v_skip | apply v_block | apply v_blk | (apply v_pure; (case hop => first | (apply p_move <;> rfl) | (apply p_lt <;> rfl) | (apply p_ne <;> rfl) | (apply p_assign <;> rfl) | (apply p_add; (case hx => rfl); (case hy => rfl); (case h => omega)) | (apply p_indexAddr; (case hx => rfl); (case hi => rfl); (case h0 => omega); (case h => omega)) | fail); (case hd => rfl)) | (apply v_cond; (case hc => rfl); all_goals (intro h; (try simp only [reduceCtorEq, zzz] at h); first | (exfalso; omega) | skip)) | (apply v_read; (case hop => (apply r_load1; rfl; (apply Cell.own; (case h => (repeat (exact mhd _))); rfl))); (case hd => rfl)) | fail)
    · refine v_ret [(sb, _)] (outsA1 rfl rfl) (by repeat (exact List.Sublist.refl _)) ?_
      exact ⟨by rw [if_pos (by assumption)], rfl⟩
    · refine v_again rfl ⟨rfl, rfl, 1, by omega, rfl, fun _ => by omega, by omega⟩ (by simp [headI])
  · have h1 := h1 (by omega)
    repeat' (first | apply v_seq | apply v_region | apply v_nil | apply v_skip | apply v_block | apply v_blk | (apply v_pure; (case hop => first | (apply p_move <;> rfl) | (apply p_lt <;> rfl) | (apply p_ne <;> rfl) | (apply p_assign <;> rfl) | (apply p_add; (case hx => rfl); (case hy => rfl); (case h => omega)) | (apply p_indexAddr; (case hx => rfl); (case hi => rfl); (case h0 => omega); (case h => omega)) | fail); (case hd => rfl)) | (apply v_cond; (case hc => rfl); all_goals (intro h; (try simp only [reduceCtorEq, zzz] at h); first | (exfalso; omega) | skip)) | (apply v_read; (case hop => (apply r_load1; rfl; (apply Cell.own; (case h => (repeat (exact mhd _))); rfl))); (case hd => rfl)) | fail)
    · refine v_ret [(sb, _)] (outsA1 rfl rfl) (by repeat (exact List.Sublist.refl _)) ?_
      exact ⟨by rw [if_neg (by omega)], rfl⟩
    · refine v_again rfl ⟨rfl, rfl, 2, by omega, rfl, fun _ => by omega, fun _ => by omega⟩ (by simp [headI])
  · have h1 := h1 (by omega)
    have h2 := h2 (by omega)
    repeat' (first | apply v_seq | apply v_region | apply v_nil | (apply v_exit; (case hp => rfl)) | (apply v_pure; (case hop => first | (apply p_move <;> rfl) | (apply p_lt <;> rfl) | (apply p_assign <;> rfl) | fail); (case hd => rfl)) | (apply v_cond; (case hc => rfl); all_goals (intro h; (try simp only [reduceCtorEq, zzz] at h); first | (exfalso; omega) | skip)) | fail)
    refine v_ret [(sb, _)] (outsA1 rfl rfl) (by repeat (exact List.Sublist.refl _)) ?_
    exact ⟨by rw [if_neg (by omega), h2], rfl⟩
theorem less_s (G : GH) (r n r' n' : Int) : Con Tryz.prog 83 #[.agg #[.int .i64 r, .int .i64 n], .agg #[.int .i64 r', .int .i64 n']] G [] (Just (.bool (decide (lessP r n r' n'))) G) := by
  have q1 := cmp_s G r r'
  have q2 := cmp_s G n n'
  have qo := fun sb => cmpOr_s G sb (cmpI r r') (cmpI n n')
  have key : dec ((if cmpI r r' ≠ 0 then cmpI r r' else cmpI n n') < 0) = decide (lessP r n r' n') := by
    rw [dec_eq]
    congr 1
    rw [eq_iff_iff]
    have a1 := @cmpI_lt r r'
    have a2 := @cmpI_eq r r'
    have a3 := @cmpI_lt n n'
    unfold lessP
    by_cases h : cmpI r r' = 0
    · rw [if_neg (by omega)]; omega
    · rw [if_pos h]; omega
  apply Con.just
  (refine v_enter Tryz.func83 rfl Tryz.ntmps83 rfl ?_; intro B _)
  repeat' (first | apply v_seq | apply v_region | apply v_nil | (apply v_pure; (case hop => (apply p_assign <;> rfl)); (case hd => rfl)) | (apply v_box; (case hx => rfl); (case hz => rfl); (case hd => rfl); intro b) | fail)
  refine d_start _ (by kernel_rfl) (by kernel_rfl) (by kernel_rfl) (fun _ he => he) ?_
  all_goals (apply dtk 0; (case hi => rfl); (case hop => (apply prd; apply p_fieldAddrB <;> rfl)); (case hq => kernel_rfl))
  all_goals (apply dtk 1; (case hi => rfl); (case hop => first | (apply r_loadNo; (case hx => rfl); (case h => (repeat (fail))); (case hd => (repeat (fail))); (case hn => rfl)) | (apply r_load1; rfl; (apply Cell.own; (case h => (repeat (first | exact mhd _ | apply mtl))); rfl)) | (apply r_loadN; rfl; (apply CellsAt.own; (case h => (repeat (fail)))); rfl)); (case hq => kernel_rfl))
  all_goals (apply dtk 2; (case hi => rfl); (case hop => (apply prd; apply p_fieldAddrB <;> rfl)); (case hq => kernel_rfl))
  all_goals (apply dtk 3; (case hi => rfl); (case hop => first | (apply r_loadNo; (case hx => rfl); (case h => (repeat (fail))); (case hd => (repeat (fail))); (case hn => rfl)) | (apply r_load1; rfl; (apply Cell.own; (case h => (repeat (exact mhd _))); rfl)) | (apply r_loadN; rfl; (apply CellsAt.own; (case h => (repeat (fail)))); rfl)); (case hq => kernel_rfl))
  all_goals (apply dtk 5; (case hi => rfl); (case hop => (apply prd; apply p_fieldAddrB <;> rfl)); (case hq => kernel_rfl))
  all_goals (apply dtk 6; (case hi => rfl); (case hop => first | (apply r_loadNo; (case hx => rfl); (case h => (repeat (fail))); (case hd => (repeat (fail))); (case hn => rfl)) | (apply r_load1; rfl; (apply Cell.own; (case h => (repeat (first | exact mhd _ | apply mtl))); rfl)) | (apply r_loadN; rfl; (apply CellsAt.own; (case h => (repeat (fail)))); rfl)); (case hq => kernel_rfl))
  all_goals (apply dtk 7; (case hi => rfl); (case hop => (apply prd; apply p_fieldAddrB <;> rfl)); (case hq => kernel_rfl))
  all_goals (apply dtk 8; (case hi => rfl); (case hop => first | (apply r_loadNo; (case hx => rfl); (case h => (repeat (fail))); (case hd => (repeat (fail))); (case hn => rfl)) | (apply r_load1; rfl; (apply Cell.own; (case h => (repeat (exact mhd _))); rfl)) | (apply r_loadN; rfl; (apply CellsAt.own; (case h => (repeat (fail)))); rfl)); (case hq => kernel_rfl))
  all_goals (apply d_callJ 4 (hs := q1); (case hi => rfl); (case hr => kernel_rfl); (case ha => rfl); (case hd => rfl))
  all_goals (apply d_callJ 9 (hs := q2); (case hi => rfl); (case hr => kernel_rfl); (case ha => rfl); (case hd => rfl))
  all_goals (apply d_buildSlice 10; (case hi => rfl); (case hr => kernel_rfl); (case hT => infer_instance); (case hL => infer_instance); (case hz => rfl); (case hl => rfl); (case hv => (simp only [List.map_cons, List.map_nil]; repeat (first | with_reducible exact evs_nil | (apply evs_cons; (case h1 => rfl))))); (case hp => (apply pk_cons; (case hc => rfl); (case hs => rfl); (case h => (apply pk_cons; (case hc => rfl); (case hs => rfl); (case h => (with_reducible exact pk_nil)); (case he => ((repeat (first | with_reducible exact ap_nil | apply ap_cons)); done)))); (case he => ((repeat (first | with_reducible exact ap_nil | apply ap_cons)); done)))); (case hb => rfl); (case hd => rfl); (case hν => intro e he; exact he); intro sb)
  all_goals (apply d_callK 11 (hs := qo _); (case hi => rfl); (case hr => kernel_rfl); (case ha => rfl); (case hp => exact (Pick.perm (by repeat (exact Pick.here _)))); (case hd => rfl))
  all_goals (apply dtk 12; (case hi => rfl); (case hop => (apply prd; apply p_lt <;> rfl)); (case hq => kernel_rfl))
  all_goals (apply dtk 13; (case hi => rfl); (case hop => (apply prd; apply p_assign <;> rfl)); (case hq => kernel_rfl))
  all_goals (apply d_done; (case hr => kernel_rfl))
  repeat' (fail)
  refine v_ret [] (outsA1 rfl rfl) (by repeat (exact List.nil_sublist _)) ?_
  exact ⟨by rw [key], rfl⟩
theorem refLess_s (G : GH) (r n r' n' : Int) : Con Tryz.prog 54 #[.agg #[.int .i64 r, .int .i64 n], .agg #[.int .i64 r', .int .i64 n']] G [] (Just (.bool (decide (lessP r n r' n'))) G) := by
  apply Con.just
  (refine v_enter Tryz.func54 rfl Tryz.ntmps54 rfl ?_; intro B _)
  repeat' (first | apply v_seq | apply v_region | apply v_nil | apply v_skip | (apply v_pure; (case hop => first | (apply p_eq <;> rfl) | (apply p_lt <;> rfl) | (apply p_assign <;> rfl) | (apply p_fieldAddrB <;> rfl) | fail); (case hd => rfl)) | (apply v_cond; (case hc => rfl); all_goals (intro h; (try simp only [reduceCtorEq, zzz] at h))) | (apply v_read; (case hop => (apply r_load1; rfl; (apply Cell.own; (case h => (repeat (first | exact mhd _ | apply mtl))); rfl))); (case hd => rfl)) | (apply v_box; (case hx => rfl); (case hz => rfl); (case hd => rfl); intro b) | fail)
  all_goals
    (refine v_ret [] (outsA1 rfl rfl) (by repeat (exact List.nil_sublist _)) ?_
     refine ⟨?_, rfl⟩
     rw [dec_eq]
     congr 1
     rw [decide_eq_decide]
     unfold lessP
     omega)
structure Hd where
  pr : Int
  pn : Int
  base : Int
  image : List Int
  acc : List Ent
  cho : List Ent
def Hd.zero : Hd := ⟨0, 0, 0, [], [], []⟩
def entOf (x : Rc) : Ent := ⟨x.index, x.round, x.node, x.cmd⟩
def Hd.prom (h : Hd) (x : Rc) : Hd := if lessP h.pr h.pn x.round x.node then { h with pr := x.round, pn := x.node } else h
noncomputable def chg (h : Hd) (x : Rc) : Hd :=
  if x.kind = 1 then h.prom x
  else if x.kind = 2 then (if (h.prom x).base < x.index then { h.prom x with acc := withL (h.prom x).acc (entOf x) } else h.prom x)
  else if x.kind = 3 then (if hitB h.cho x.index = false ∧ h.base < x.index then { h with cho := withL h.cho ⟨x.index, 0, 0, x.cmd⟩ } else h)
  else if x.index ≤ h.base then h
  else { h with base := x.index, image := x.image, acc := h.acc.drop (placeN h.acc (x.index + 1)), cho := h.cho.drop (placeN h.cho (x.index + 1)) }
noncomputable def stepH (h : Hd) (x : Rc) : Hd := if chkI x = 0 then chg h x else h
noncomputable def hardOf (l : List Rc) : Hd := l.foldl stepH Hd.zero
noncomputable def r1 (h : Hd) (x : Rc) : Hd :=
  if chkI x = 0 then (if x.kind = 1 ∨ x.kind = 2 then h.prom x else if x.kind = 4 ∧ h.base < x.index then { h with base := x.index, image := x.image } else h) else h
structure Good (n : Nat) (h : Hd) : Prop where
  may : mayP h.pr h.pn
  base : 0 ≤ h.base ∧ h.base ≤ 4294967296
  img : h.image.length ≤ 32768 ∧ (0 < h.base ↔ 0 < h.image.length)
  racc : RiseL h.acc
  rcho : RiseL h.cho
  nacc : h.acc.length ≤ n
  ncho : h.cho.length ≤ n
  acc : ∀ e ∈ h.acc, oneI e = 0 ∧ e.ok ∧ h.base < e.index ∧ e.round ≠ 0 ∧ ¬ lessP h.pr h.pn e.round e.node
  cho : ∀ e ∈ h.cho, oneI e = 0 ∧ e.ok ∧ h.base < e.index ∧ e.round = 0 ∧ e.node = 0
theorem good_zero : Good 0 Hd.zero := by
  refine ⟨.inl ⟨rfl, rfl⟩, by decide, by decide, ?_, ?_, by decide, by decide, ?_, ?_⟩
  · intro i j hj; simp [Hd.zero] at hj
  · intro i j hj; simp [Hd.zero] at hj
  · intro e he; simp [Hd.zero] at he
  · intro e he; simp [Hd.zero] at he
theorem ins_len (x : Ent) : ∀ l : List Ent, (ins x l).length ≤ l.length + 1
  | [] => by simp [ins]
  | y :: l => by
    have := ins_len x l
    rw [ins_cons]
    split
    · simp; omega
    · split <;> simp
theorem Good.more {n m : Nat} {h : Hd} (g : Good n h) (hm : n ≤ m) : Good m h := ⟨g.may, g.base, g.img, g.racc, g.rcho, Nat.le_trans g.nacc hm, Nat.le_trans g.ncho hm, g.acc, g.cho⟩
theorem good_prom {n : Nat} {h : Hd} (g : Good n h) {x : Rc} (hm : mayP x.round x.node) : Good n (h.prom x) ∧ ¬ lessP (h.prom x).pr (h.prom x).pn x.round x.node := by
  unfold Hd.prom
  by_cases hl : lessP h.pr h.pn x.round x.node
  · rw [if_pos hl]
    refine ⟨⟨hm, g.base, g.img, g.racc, g.rcho, g.nacc, g.ncho, fun e he => ?_, g.cho⟩, by unfold lessP; simp only; omega⟩
    obtain ⟨h1, h2, h3, h4, h5⟩ := g.acc e he
    refine ⟨h1, h2, h3, h4, ?_⟩
    unfold lessP at hl h5 ⊢
    simp only
    omega
  · rw [if_neg hl]
    exact ⟨g, hl⟩
theorem good_chg {n : Nat} {h : Hd} (g : Good n h) {x : Rc} (hx : chkI x = 0) (hc : x.cmd.ok) : Good (n + 1) (chg h x) := by
  have h0 : recI x.kind x.round x.node x.index x.cmd x.image.length = 0 := hx
  obtain ⟨hk, hr, hi, hcc, ho⟩ := rec0 h0
  obtain ⟨hfit, hsm, him, hsz⟩ := fits0 h0
  unfold ranP at hr
  unfold chg
  by_cases k1 : x.kind = 1
  · rw [if_pos k1]
    exact (good_prom g (hr.1 (.inl k1)).1).1.more (by omega)
  rw [if_neg k1]
  by_cases k2 : x.kind = 2
  · rw [if_pos k2]
    obtain ⟨g1, hnl⟩ := good_prom g (x := x) (hr.1 (.inr k2)).1
    have hm := (hr.1 (.inr k2))
    split
    · rename_i hlt
      have hcmd := hcc (.inl k2)
      have hidx := hr.2 (.inl k2)
      have hone : oneI (entOf x) = 0 := by
        unfold oneI entOf
        rw [if_neg]
        · exact hcmd
        · rintro (hh | hh | hh)
          · simp only at hh; omega
          · simp only at hh; omega
          · exact hh hm.1
      have hok : (entOf x).ok := by
        have hw := hm.1
        unfold mayP at hw
        exact ⟨wf64 (n := x.index) (by omega), wf64 (n := x.round) (by omega), wf64 (n := x.node) (by omega), hc⟩
      rw [withL_ins g1.racc]
      refine ⟨g1.may, g1.base, g1.img, rise_ins g1.racc _, g1.rcho, Nat.le_trans (ins_len _ _) (by have := g1.nacc; omega), Nat.le_trans g1.ncho (by omega), fun e he => ?_, g1.cho⟩
      obtain rfl | he := mem_ins he
      · refine ⟨hone, hok, hlt, ?_, hnl⟩
        have hm1 := hm.1
        unfold mayP at hm1
        intro hz
        have : x.round = 0 := hz
        have hm2 := hm.2
        omega
      · exact g1.acc e he
    · exact g1.more (by omega)
  rw [if_neg k2]
  by_cases k3 : x.kind = 3
  · rw [if_pos k3]
    split
    · rename_i hcond
      have hcmd := hcc (.inr k3)
      have hidx := hr.2 (.inr (.inl k3))
      have hone : oneI ⟨x.index, 0, 0, x.cmd⟩ = 0 := by
        unfold oneI
        rw [if_neg]
        · exact hcmd
        · rintro (hh | hh | hh)
          · simp only at hh; omega
          · simp only at hh; omega
          · exact hh (.inl ⟨rfl, rfl⟩)
      have hok : (⟨x.index, 0, 0, x.cmd⟩ : Ent).ok := ⟨wf64 (n := x.index) (by omega), wf64 (n := 0) (by omega), wf64 (n := 0) (by omega), hc⟩
      rw [withL_ins g.rcho]
      refine ⟨g.may, g.base, g.img, g.racc, rise_ins g.rcho _, Nat.le_trans g.nacc (by omega), Nat.le_trans (ins_len _ _) (by have := g.ncho; omega), g.acc, fun e he => ?_⟩
      obtain rfl | he := mem_ins he
      · exact ⟨hone, hok, hcond.2, rfl, rfl⟩
      · exact g.cho e he
    · exact g.more (by omega)
  rw [if_neg k3]
  have k4 : x.kind = 4 := by omega
  have hidx := hr.2 (.inr (.inr k4))
  split
  · exact g.more (by omega)
  · rename_i hlt
    have hpos : 0 < x.image.length := by unfold othP at ho; omega
    rw [drop_filter g.racc, drop_filter g.rcho]
    refine ⟨g.may, by simp only; omega, by simp only; omega, rise_filter g.racc _, rise_filter g.rcho _, Nat.le_trans (List.length_filter_le _ _) (by have := g.nacc; omega), Nat.le_trans (List.length_filter_le _ _) (by have := g.ncho; omega), fun e he => ?_, fun e he => ?_⟩
    · obtain ⟨h1, h2⟩ := List.mem_filter.1 he
      obtain ⟨a1, a2, a3, a4, a5⟩ := g.acc e h1
      exact ⟨a1, a2, of_decide_eq_true h2, a4, a5⟩
    · obtain ⟨h1, h2⟩ := List.mem_filter.1 he
      obtain ⟨a1, a2, a3, a4, a5⟩ := g.cho e h1
      exact ⟨a1, a2, of_decide_eq_true h2, a4, a5⟩
theorem chk_of {l : List Ent} (h : ∀ x ∈ l, oneI x = 0) (hr : RiseL l) : ∀ (n k : Nat), l.length - k = n → chkK l k = 0
  | 0, k, hn => by rw [chkK, dif_neg (by omega)]
  | n + 1, k, hn => by
    have hlt : k < l.length := by omega
    rw [chkK, dif_pos hlt, if_neg (by rw [h _ (List.getElem_mem hlt)]; simp)]
    have hnext := chk_of h hr n (k + 1) (by omega)
    by_cases h0 : 0 < k
    · rw [dif_pos h0, if_neg, hnext]
      have := hr (k - 1) k hlt (by omega)
      omega
    · rw [dif_neg h0, hnext]
abbrev balO (r n : Int) : Obj := .cells [.int .i64 r, .int .i64 n].toArray 23 (0, 0)
abbrev twoB (r n r' n' : Int) : Obj := .cells [.int .i64 r, .int .i64 n, .int .i64 r', .int .i64 n'].toArray 23 (0, 0)
def maxR (r n r' n' : Int) : Int × Int := if lessP r n r' n' then (r', n') else (r, n)
theorem max_s (G : GH) (sb : Nat) (r n r' n' : Int) : Con Tryz.prog 179 #[.slice (some ⟨sb, 0, none⟩) 2 2] G [(sb, twoB r n r' n')] (Keeps (.agg #[.int .i64 (maxR r n r' n').1, .int .i64 (maxR r n r' n').2]) G [(sb, twoB r n r' n')]) := by
  have ql := less_s G r n r' n'
  apply Con.keeps
  (refine v_enter Tryz.func179 rfl Tryz.ntmps179 rfl ?_; intro B _)
  repeat' (first | apply v_seq | apply v_region | apply v_nil | apply v_block | (apply v_pure; (case hop => first | (apply p_move <;> rfl) | (apply p_lenSlice <;> rfl) | fail); (case hd => rfl)) | (apply v_alloc; (case hz => rfl); (case hd => rfl); intro b) | fail)
  rename_i ob
  rename Nat => tb
  refine v_loop [8, 7, 6, 3, 2] (fun us G' μ' => G' = G ∧ ∃ (k : Nat) (o1 o2 : Int), μ' = [(tb, balO o1 o2), (ob, balO 0 0), (sb, twoB r n r' n')] ∧ k ≤ 2 ∧ us = [Value.int .i64 (k : Nat), .int .i64 2, .slice (some ⟨sb, 0, none⟩) 2 2, .pointer (some ⟨tb, 0, none⟩), .pointer (some ⟨ob, 0, none⟩)] ∧ (k = 1 → o1 = r ∧ o2 = n) ∧ (k = 2 → o1 = (maxR r n r' n').1 ∧ o2 = (maxR r n r' n').2)) (fun us => 3 - (headI us).toNat) rfl ⟨rfl, 0, 0, 0, rfl, by omega, rfl, by omega, by omega⟩ ?_
  rintro us G' μ' ⟨rfl, k, o1, o2, rfl, hk, rfl, h1, h2⟩
  obtain rfl | rfl | rfl : k = 0 ∨ k = 1 ∨ k = 2 := by omega
  · repeat' (first | apply v_seq | apply v_region | apply v_nil | apply v_skip | apply v_block | apply v_blk | (apply v_pass; (case hg => rfl); (case hn => rfl); (case hd => rfl)) | (apply v_pure; (case hop => first | (apply p_move <;> rfl) | (apply p_eqs <;> rfl) | (apply p_lt <;> rfl) | (apply p_assign <;> rfl) | (apply p_pickT <;> rfl) | (apply p_add; (case hx => rfl); (case hy => rfl); (case h => omega)) | (apply p_indexAddr; (case hx => rfl); (case hi => rfl); (case h0 => omega); (case h => omega)) | fail); (case hd => rfl)) | (apply v_condT; (case hc => rfl)) | (apply v_cond; (case hc => rfl); all_goals (intro h; (try simp only [reduceCtorEq, zzz] at h); first | (exfalso; omega) | skip)) | (apply v_read; (case hop => (apply r_loadNo; (case hx => rfl); (case h => (repeat (first | exact mhd _ | apply mtl))); (case hd => (repeat (first | with_reducible exact dt_nil | apply dt_here))); (case hn => rfl))); (case hd => rfl)) | (apply v_alloc; (case hz => rfl); (case hd => rfl); intro b) | (apply v_store; (case hp => rfl); (case hx => rfl); (case hc => rfl); (case hsz => rfl); (case h1 => rfl); (case hb => (repeat (first | exact mhd _ | apply mtl))); (case hfit => exact nle rfl); (case hov => ((repeat (first | with_reducible exact ov_nil | apply ov_cons)); done)); (case hu => repeat (first | exact Upd.here _ _ | apply Upd.there))) | fail)
    refine v_drop (ν := [(tb, _), (ob, _), (sb, _)]) (by repeat (first | exact List.Sublist.refl _ | apply List.Sublist.cons)) ?_
    refine v_again rfl ⟨rfl, 1, r, n, rfl, by omega, rfl, fun _ => ⟨rfl, rfl⟩, by omega⟩ (by simp [headI])
  · obtain ⟨rfl, rfl⟩ := h1 rfl
    unfold maxR at *
    by_cases hl : lessP o1 o2 r' n'
    · rw [decide_eq_true hl] at ql
      rw [if_pos hl] at *
      repeat' (first | apply v_seq | apply v_region | apply v_nil | apply v_skip | apply v_block | apply v_blk | (apply v_take; (case hg => rfl)) | (apply v_pure; (case hop => first | (apply p_move <;> rfl) | (apply p_eq <;> rfl) | (apply p_lt <;> rfl) | (apply p_assign <;> rfl) | (apply p_pickF <;> rfl) | (apply p_add; (case hx => rfl); (case hy => rfl); (case h => omega)) | (apply p_indexAddr; (case hx => rfl); (case hi => rfl); (case h0 => omega); (case h => omega)) | fail); (case hd => rfl)) | (apply v_condT; (case hc => rfl)) | (apply v_cond; (case hc => rfl); all_goals (intro h; (try simp only [reduceCtorEq, zzz] at h); first | (exfalso; omega) | skip)) | (apply v_guardB; (case h1 => rfl); (case h2 => rfl); all_goals (intro h; (try simp only [reduceCtorEq, zzz] at h); first | (exfalso; omega) | skip)) | (apply v_callJ (hs := ql); (case ha => rfl); (case hd => rfl)) | (apply v_read; (case hop => (apply r_loadNo; (case hx => rfl); (case h => (repeat (first | exact mhd _ | apply mtl))); (case hd => (repeat (first | with_reducible exact dt_nil | apply dt_here))); (case hn => rfl))); (case hd => rfl)) | (apply v_alloc; (case hz => rfl); (case hd => rfl); intro b) | (apply v_store; (case hp => rfl); (case hx => rfl); (case hc => rfl); (case hsz => rfl); (case h1 => rfl); (case hb => (repeat (first | exact mhd _ | apply mtl))); (case hfit => exact nle rfl); (case hov => ((repeat (first | with_reducible exact ov_nil | apply ov_cons)); done)); (case hu => repeat (first | exact Upd.here _ _ | apply Upd.there))) | fail)
      refine v_drop (ν := [(tb, _), (ob, _), (sb, _)]) (by repeat (first | exact List.Sublist.refl _ | apply List.Sublist.cons)) ?_
      refine v_again rfl ⟨rfl, 2, r', n', rfl, by omega, rfl, by omega, fun _ => ⟨rfl, rfl⟩⟩ (by simp [headI])
    · rw [decide_eq_false hl] at ql
      rw [if_neg hl] at *
      repeat' (first | apply v_seq | apply v_region | apply v_nil | apply v_skip | apply v_block | apply v_blk | (apply v_take; (case hg => rfl)) | (apply v_pure; (case hop => first | (apply p_move <;> rfl) | (apply p_eq <;> rfl) | (apply p_lt <;> rfl) | (apply p_assign <;> rfl) | (apply p_pickF <;> rfl) | (apply p_add; (case hx => rfl); (case hy => rfl); (case h => omega)) | (apply p_indexAddr; (case hx => rfl); (case hi => rfl); (case h0 => omega); (case h => omega)) | fail); (case hd => rfl)) | (apply v_condF; (case hc => rfl)) | (apply v_cond; (case hc => rfl); all_goals (intro h; (try simp only [reduceCtorEq, zzz] at h); first | (exfalso; omega) | skip)) | (apply v_guardB; (case h1 => rfl); (case h2 => rfl); all_goals (intro h; (try simp only [reduceCtorEq, zzz] at h); first | (exfalso; omega) | skip)) | (apply v_callJ (hs := ql); (case ha => rfl); (case hd => rfl)) | (apply v_read; (case hop => (apply r_loadNo; (case hx => rfl); (case h => (repeat (first | exact mhd _ | apply mtl))); (case hd => (repeat (first | with_reducible exact dt_nil | apply dt_here))); (case hn => rfl))); (case hd => rfl)) | (apply v_alloc; (case hz => rfl); (case hd => rfl); intro b) | (apply v_store; (case hp => rfl); (case hx => rfl); (case hc => rfl); (case hsz => rfl); (case h1 => rfl); (case hb => (repeat (exact mhd _))); (case hfit => exact nle rfl); (case hov => ((repeat (first | with_reducible exact ov_nil | apply ov_cons)); done)); (case hu => repeat (exact Upd.here _ _))) | fail)
      refine v_drop (ν := [(tb, _), (ob, _), (sb, _)]) (by repeat (first | exact List.Sublist.refl _ | apply List.Sublist.cons)) ?_
      refine v_again rfl ⟨rfl, 2, o1, o2, rfl, by omega, rfl, by omega, fun _ => ⟨rfl, rfl⟩⟩ (by simp [headI])
  · obtain ⟨rfl, rfl⟩ := h2 rfl
    repeat' (first | apply v_seq | apply v_region | apply v_nil | (apply v_exit; (case hp => rfl)) | (apply v_pure; (case hop => (apply p_lt <;> rfl)); (case hd => rfl)) | (apply v_cond; (case hc => rfl); all_goals (intro h; (try simp only [reduceCtorEq, zzz] at h); first | (exfalso; omega) | skip)) | (apply v_read; (case hop => (apply r_loadNo; (case hx => rfl); (case h => (repeat (exact mhd _))); (case hd => (repeat (first | with_reducible exact dt_nil | apply dt_here))); (case hn => rfl))); (case hd => rfl)) | (apply v_store; (case hp => rfl); (case hx => rfl); (case hc => rfl); (case hsz => rfl); (case h1 => rfl); (case hb => (repeat (first | exact mhd _ | apply mtl))); (case hfit => exact nle rfl); (case hov => ((repeat (first | with_reducible exact ov_nil | apply ov_cons)); done)); (case hu => repeat (first | exact Upd.here _ _ | apply Upd.there))) | fail)
    refine v_retM [(sb, _)] (outsM_cell (vs := [.int .i64 (maxR r n r' n').1, .int .i64 (maxR r n r' n').2]) (e := 23) rfl rfl (by repeat (first | exact mhd _ | apply mtl)) rfl) (by repeat (first | exact List.Sublist.refl _ | apply List.Sublist.cons)) ?_
    exact ⟨rfl, rfl⟩
def hdL (pr pn base : Int) (iv av cv : Value) : List Value := [.int .i64 pr, .int .i64 pn, .int .i64 base, iv, av, cv]
theorem prom_max (h : Hd) (x : Rc) : h.prom x = { h with pr := (maxR h.pr h.pn x.round x.node).1, pn := (maxR h.pr h.pn x.round x.node).2 } := by
  unfold Hd.prom maxR
  split <;> rfl
theorem promise_s (G : GH) (hb : Nat) (pr pn base r n : Int) (iv av cv : Value) : Con Tryz.prog 153 #[.pointer (some ⟨hb, 0, none⟩), .agg #[.int .i64 r, .int .i64 n]] G [(hb, .cells (hdL pr pn base iv av cv).toArray 153 (0, 0))]
    (fun _ G' μ' => G' = G ∧ μ' = [(hb, .cells (hdL (maxR pr pn r n).1 (maxR pr pn r n).2 base iv av cv).toArray 153 (0, 0))]) := by
  have qm := fun sb => max_s G sb pr pn r n
  (refine v_enter Tryz.func153 rfl Tryz.ntmps153 rfl ?_; intro B _)
  repeat' (first | apply v_seq | apply v_region | apply v_nil | (apply v_box; (case hx => rfl); (case hz => rfl); (case hd => rfl); intro b) | fail)
  refine d_start [(b, balO r n)] (by kernel_rfl) (by kernel_rfl) (by kernel_rfl) (by intro e he; (simp at he; simp [he]; done)) ?_
  all_goals (apply dtk 0; (case hi => rfl); (case hop => (apply prd; apply p_move <;> rfl)); (case hq => kernel_rfl))
  all_goals (apply dtk 1; (case hi => rfl); (case hop => (apply prd; apply p_move <;> rfl)); (case hq => kernel_rfl))
  all_goals (apply dtk 2; (case hi => rfl); (case hop => (apply prd; apply p_nilCheck <;> rfl)); (case hq => kernel_rfl))
  all_goals (apply dtk 3; (case hi => rfl); (case hop => (apply prd; apply p_fieldAddrB <;> rfl)); (case hq => kernel_rfl))
  all_goals (apply dtk 4; (case hi => rfl); (case hop => (apply prd; apply p_fieldAddrB <;> rfl)); (case hq => kernel_rfl))
  all_goals (apply dtk 6; (case hi => rfl); (case hop => first | (apply r_loadNo; (case hx => rfl); (case h => (repeat (exact mhd _))); (case hd => (repeat (first | with_reducible exact dt_nil | apply dt_here))); (case hn => rfl)) | (apply r_load1; rfl; (apply Cell.own; (case h => (repeat (fail))); rfl)) | (apply r_loadN; rfl; (apply CellsAt.own; (case h => (repeat (fail)))); rfl)); (case hq => kernel_rfl))
  all_goals (apply d_keep 5 (hop := ReadOp.move ?hop); (case hi => rfl); (case hr => kernel_rfl); (case hop => (apply r_loadNo; (case hx => rfl); (case h => repeat (first | exact mhd _ | apply mtl)); (case hd => repeat (first | with_reducible exact dt_nil | apply dt_here)); (case hn => rfl))); (case hd => rfl))
  all_goals (apply d_buildSlice 7; (case hi => rfl); (case hr => kernel_rfl); (case hT => infer_instance); (case hL => infer_instance); (case hz => rfl); (case hl => rfl); (case hv => (simp only [List.map_cons, List.map_nil]; repeat (first | with_reducible exact evs_nil | (apply evs_cons; (case h1 => rfl))))); (case hp => (apply pk_cons; (case hc => rfl); (case hs => rfl); (case h => (apply pk_cons; (case hc => rfl); (case hs => rfl); (case h => (with_reducible exact pk_nil)); (case he => ((repeat (first | with_reducible exact ap_nil | apply ap_cons)); done)))); (case he => ((repeat (first | with_reducible exact ap_nil | apply ap_cons)); done)))); (case hb => rfl); (case hd => rfl); (case hν => intro e he; (simp at he; simp [he]; done)); intro sb)
  all_goals (apply d_callK 8 (hs := qm _); (case hi => rfl); (case hr => kernel_rfl); (case ha => rfl); (case hp => exact (Pick.perm (by repeat (exact Pick.here _)))); (case hd => rfl))
  all_goals (apply dtk 9; (case hi => rfl); (case hop => (apply prd; apply p_nilCheck <;> rfl)); (case hq => kernel_rfl))
  all_goals (apply dtk 10; (case hi => rfl); (case hop => (apply prd; apply p_fieldAddrB <;> rfl)); (case hq => kernel_rfl))
  all_goals (apply dtk 11; (case hi => rfl); (case hop => (apply prd; apply p_fieldAddrB <;> rfl)); (case hq => kernel_rfl))
  all_goals (apply d_store 12; (case hi => rfl); (case hr => kernel_rfl); (case hL => infer_instance); (case hp => rfl); (case hx => rfl); (case hc => rfl); (case hsz => rfl); (case h1 => rfl); (case hb => (repeat (first | exact mhd _ | apply mtl))); (case hfit => exact nle rfl); (case hov => ((repeat (first | with_reducible exact ov_nil | apply ov_cons)); done)); (case hu => repeat (first | exact Upd.here _ _ | apply Upd.there)); (case hν' => intro e he; (simp at he; simp [he]; done)))
  all_goals (apply d_done; (case hr => kernel_rfl))
  repeat' (fail)
  refine v_end [(hb, _)] (outsA0 rfl) (by repeat (first | exact List.Sublist.refl _ | apply List.Sublist.cons)) ?_
  exact ⟨rfl, rfl⟩
def HdV (G : GH) (h : Hd) (L : List Value) : Prop := ∃ iv av cv, L = hdL h.pr h.pn h.base iv av cv ∧ Sl G 1 (IntR .u8) iv h.image ∧ Es G av h.acc ∧ Es G cv h.cho
theorem esle {G G' : GH} {v : Value} {l : List Ent} (h : Es G v l) (hle : GH.le G G') : Es G' v l := Sl.le h hle fun _ _ h => h
theorem HdV.le {G G' : GH} {h : Hd} {L : List Value} (hh : HdV G h L) (hle : GH.le G G') : HdV G' h L := let ⟨iv, av, cv, h1, h2, h3, h4⟩ := hh; ⟨iv, av, cv, h1, h2.mono hle, esle h3 hle, esle h4 hle⟩
abbrev hdO (L : List Value) : Obj := .cells L.toArray 153 (0, 0)
noncomputable def accH (h : Hd) (x : Rc) : Hd := if (h.prom x).base < x.index then { h.prom x with acc := withL (h.prom x).acc (entOf x) } else h.prom x
theorem accept_s {G : GH} {H : Hd} {L : List Value} {x : Rc} {xv : Value} {n : Nat} (hb : Nat) (hh : HdV G H L) (g : Good n H) (hn : n ≤ 200) (hx : RcV G x xv) (hok : ∀ e ∈ withL H.acc (entOf x), e.ok) :
    Con Tryz.prog 154 #[.pointer (some ⟨hb, 0, none⟩), xv] G [(hb, hdO L)] (fun _ G' μ' => ∃ L', μ' = [(hb, hdO L')] ∧ HdV G' (accH H x) L') := by
  obtain ⟨im, av, cv, rfl, hi, ha, hc⟩ := hh
  obtain ⟨A1, c1, rfl, -⟩ := id ha.open
  obtain ⟨iv, rfl, hxi⟩ := hx
  have qp := promise_s G hb H.pr H.pn H.base x.round x.node im (.slice A1 H.acc.length c1) cv
  have qw := with_s (entOf x) ha g.racc (by have := g.nacc; omega)
  have ep := prom_max H x
  unfold accH
  rw [ep]
  generalize hm : maxR H.pr H.pn x.round x.node = m at *
  (refine v_enter Tryz.func154 rfl Tryz.ntmps154 rfl ?_; intro B _)
  repeat' (first | apply v_seq | apply v_region | apply v_nil | (apply v_pure; (case hop => first | (apply p_move <;> rfl) | (apply p_fieldAddrB <;> rfl) | fail); (case hd => rfl)) | (apply v_box (zs := recL x.kind x.round x.node x.index x.cmd iv); (case hx => rfl); (case hz => rfl); (case hd => rfl); intro xb) | (apply v_read; (case hop => (apply r_loadNo; (case hx => rfl); (case h => (repeat (exact mhd _))); (case hd => (repeat (first | with_reducible exact dt_nil | apply dt_here))); (case hn => rfl))); (case hd => rfl)) | fail)
  refine v_call (μ1 := [(hb, _)]) (μ2 := _) rfl qp (PickA.perm (by repeat (first | exact PickA.last | apply PickA.cons))) rfl ?_
  rintro _ _ _ - ⟨rfl, rfl⟩
  repeat' (first | apply v_seq | apply v_nil)
  refine d_start _ (by kernel_rfl) (by kernel_rfl) (by kernel_rfl) (fun _ he => he) ?_
  all_goals (apply dtk 0; (case hi => rfl); (case hop => (apply prd; apply p_fieldAddrB <;> rfl)); (case hq => kernel_rfl))
  all_goals (apply dtk 1; (case hi => rfl); (case hop => first | (apply r_loadNo; (case hx => rfl); (case h => (repeat (fail))); (case hd => (repeat (fail))); (case hn => rfl)) | (apply r_load1; rfl; (apply Cell.own; (case h => (repeat (first | exact mhd _ | apply mtl))); rfl)) | (apply r_loadN; rfl; (apply CellsAt.own; (case h => (repeat (fail)))); rfl)); (case hq => kernel_rfl))
  all_goals (apply dtk 2; (case hi => rfl); (case hop => (apply prd; apply p_move <;> rfl)); (case hq => kernel_rfl))
  all_goals (apply dtk 3; (case hi => rfl); (case hop => (apply prd; apply p_nilCheck <;> rfl)); (case hq => kernel_rfl))
  all_goals (apply dtk 4; (case hi => rfl); (case hop => (apply prd; apply p_fieldAddrB <;> rfl)); (case hq => kernel_rfl))
  all_goals (apply dtk 5; (case hi => rfl); (case hop => (apply prd; apply p_fieldAddrB <;> rfl)); (case hq => kernel_rfl))
  all_goals (apply dtk 6; (case hi => rfl); (case hop => first | (apply r_loadNo; (case hx => rfl); (case h => (repeat (fail))); (case hd => (repeat (fail))); (case hn => rfl)) | (apply r_load1; rfl; (apply Cell.own; (case h => (repeat (exact mhd _))); rfl)) | (apply r_loadN; rfl; (apply CellsAt.own; (case h => (repeat (fail)))); rfl)); (case hq => kernel_rfl))
  all_goals (apply dtk 7; (case hi => rfl); (case hop => (apply prd; apply p_gt <;> rfl)); (case hq => kernel_rfl))
  all_goals (apply d_done; (case hr => kernel_rfl))
  repeat' (first | apply v_skip | (apply v_cond; (case hc => rfl); all_goals (intro h; (try simp only [reduceCtorEq, zzz] at h))) | fail)
  · have hlt := h
    refine d_start [(xb, .cells (recL x.kind x.round x.node x.index x.cmd iv).toArray 42 (0, 0))] (by kernel_rfl) (by kernel_rfl) (by kernel_rfl) (by intro e he; (simp at he; simp [he]; done)) ?_
    all_goals (apply dtk 0; (case hi => rfl); (case hop => (apply prd; apply p_move <;> rfl)); (case hq => kernel_rfl))
    all_goals (apply dtk 1; (case hi => rfl); (case hop => (apply prd; apply p_move <;> rfl)); (case hq => kernel_rfl))
    all_goals (apply dtk 2; (case hi => rfl); (case hop => (apply prd; apply p_nilCheck <;> rfl)); (case hq => kernel_rfl))
    all_goals (apply dtk 3; (case hi => rfl); (case hop => (apply prd; apply p_fieldAddrB <;> rfl)); (case hq => kernel_rfl))
    all_goals (apply dtk 4; (case hi => rfl); (case hop => (apply prd; apply p_fieldAddrB <;> rfl)); (case hq => kernel_rfl))
    all_goals (apply dtk 6; (case hi => rfl); (case hop => (apply prd; apply p_fieldAddrB <;> rfl)); (case hq => kernel_rfl))
    all_goals (apply dtk 7; (case hi => rfl); (case hop => first | (apply r_loadNo; (case hx => rfl); (case h => (repeat (fail))); (case hd => (repeat (fail))); (case hn => rfl)) | (apply r_load1; rfl; (apply Cell.own; (case h => (repeat (exact mhd _))); rfl)) | (apply r_loadN; rfl; (apply CellsAt.own; (case h => (repeat (fail)))); rfl)); (case hq => kernel_rfl))
    all_goals (apply dtk 8; (case hi => rfl); (case hop => (apply prd; apply p_fieldAddrB <;> rfl)); (case hq => kernel_rfl))
    all_goals (apply dtk 9; (case hi => rfl); (case hop => first | (apply r_loadNo; (case hx => rfl); (case h => (repeat (exact mhd _))); (case hd => (repeat (first | with_reducible exact dt_nil | apply dt_here))); (case hn => rfl)) | (apply r_load1; rfl; (apply Cell.own; (case h => (repeat (fail))); rfl)) | (apply r_loadN; rfl; (apply CellsAt.own; (case h => (repeat (fail)))); rfl)); (case hq => kernel_rfl))
    all_goals (apply dtk 10; (case hi => rfl); (case hop => (apply prd; apply p_fieldAddrB <;> rfl)); (case hq => kernel_rfl))
    all_goals (apply dtk 11; (case hi => rfl); (case hop => first | (apply r_loadNo; (case hx => rfl); (case h => (repeat (exact mhd _))); (case hd => (repeat (first | with_reducible exact dt_nil | apply dt_here))); (case hn => rfl)) | (apply r_load1; rfl; (apply Cell.own; (case h => (repeat (fail))); rfl)) | (apply r_loadN; rfl; (apply CellsAt.own; (case h => (repeat (fail)))); rfl)); (case hq => kernel_rfl))
    all_goals (apply dtk 12; (case hi => rfl); (case hop => (apply prd; apply p_build; (case hz => rfl); (case hv => (simp only [List.map_cons, List.map_nil]; repeat (first | with_reducible exact evs_nil | (apply evs_cons; (case h1 => rfl))))); (case hb => (apply bldL; repeat (first | exact bld_nil | (apply bld_cons; (case hpf => rfl); (case hc => rfl); (case hs => rfl); (case hl => rfl); (case ho => ((repeat (first | with_reducible exact ov_nil | apply ov_cons)); done)))))))); (case hq => kernel_rfl))
    all_goals (apply d_keep 5 (hop := ReadOp.move ?hop); (case hi => rfl); (case hr => kernel_rfl); (case hop => (apply r_load1; rfl; (apply Cell.own; (case h => repeat (exact mhd _)); rfl))); (case hd => rfl))
    all_goals ((apply d_call 13 (hs := qw); (case hi => rfl); (case hr => kernel_rfl);  (case ha => rfl); (case hp => exact List.Perm.refl _); (case hd => rfl); (case hν' => intro e he; simp at he; simp [he]); rintro r1 G1 ν1 - ⟨rfl, hg1⟩; obtain ⟨A2, c2, rfl, -, -⟩ := hg1.shape))
    all_goals (apply dtk 14; (case hi => rfl); (case hop => (apply prd; apply p_nilCheck <;> rfl)); (case hq => kernel_rfl))
    all_goals (apply dtk 15; (case hi => rfl); (case hop => (apply prd; apply p_fieldAddrB <;> rfl)); (case hq => kernel_rfl))
    all_goals (apply dtk 16; (case hi => rfl); (case hop => (apply prd; apply p_fieldAddrB <;> rfl)); (case hq => kernel_rfl))
    all_goals (apply d_store 17; (case hi => rfl); (case hr => kernel_rfl); (case hL => infer_instance); (case hp => rfl); (case hx => rfl); (case hc => rfl); (case hsz => rfl); (case h1 => rfl); (case hb => (repeat (first | exact mhd _ | apply List.mem_append_right))); (case hfit => exact nle rfl); (case hov => ((repeat (first | with_reducible exact ov_nil | apply ov_cons)); done)); (case hu => repeat (first | exact Upd.here _ _ | apply Upd.app)); (case hν' => intro e he; (simp at he; simp [he]; done)))
    all_goals (apply d_done; (case hr => kernel_rfl))
    repeat' (fail)
    refine v_frz ν1 (by repeat (exact PickA.here _)) ?_
    intro G2 hle2 hG2
    refine v_end [(hb, _)] (outsA0 rfl) (by repeat (first | exact List.nil_sublist _ | apply List.Sublist.cons_cons)) ?_
    rw [if_pos hlt]
    exact ⟨_, rfl, _, _, _, rfl, hi.mono hle2, es_of_grow hg1 hG2 hok, esle hc hle2⟩
  · have hlt := h
    refine v_end [(hb, _)] (outsA0 rfl) (by repeat (first | exact List.nil_sublist _ | apply List.Sublist.cons_cons)) ?_
    rw [if_neg hlt]
    exact ⟨_, rfl, _, _, _, rfl, hi, ha, hc⟩
noncomputable def choH (h : Hd) (x : Rc) : Hd := if hitB h.cho x.index = false ∧ h.base < x.index then { h with cho := withL h.cho ⟨x.index, 0, 0, x.cmd⟩ } else h
theorem choose_s {G : GH} {H : Hd} {L : List Value} {x : Rc} {xv : Value} {n : Nat} (hb : Nat) (hh : HdV G H L) (g : Good n H) (hn : n ≤ 200) (hx : RcV G x xv) (hok : ∀ e ∈ withL H.cho ⟨x.index, 0, 0, x.cmd⟩, e.ok) :
    Con Tryz.prog 155 #[.pointer (some ⟨hb, 0, none⟩), xv] G [(hb, hdO L)] (fun _ G' μ' => ∃ L', μ' = [(hb, hdO L')] ∧ HdV G' (choH H x) L') := by
  obtain ⟨im, av, cv, rfl, hi, ha, hc⟩ := hh
  obtain ⟨A1, c1, rfl, -⟩ := id hc.open
  obtain ⟨iv, rfl, hxi⟩ := hx
  have qf := find_s x.index hc g.rcho
  have qw := with_s ⟨x.index, 0, 0, x.cmd⟩ hc g.rcho (by have := g.ncho; omega)
  generalize findE H.cho x.index = fe at *
  unfold choH
  cases hbit : hitB H.cho x.index
  all_goals
    rw [hbit] at qf
  · (refine v_enter Tryz.func155 rfl Tryz.ntmps155 rfl ?_; intro B _)
    repeat' (first | apply v_seq | apply v_region | apply v_nil | (apply v_box (zs := recL x.kind x.round x.node x.index x.cmd iv); (case hx => rfl); (case hz => rfl); (case hd => rfl); intro xb) | fail)
    refine d_start _ (by kernel_rfl) (by kernel_rfl) (by kernel_rfl) (fun _ he => he) ?_
    all_goals (apply dtk 0; (case hi => rfl); (case hop => (apply prd; apply p_move <;> rfl)); (case hq => kernel_rfl))
    all_goals (apply dtk 1; (case hi => rfl); (case hop => (apply prd; apply p_nilCheck <;> rfl)); (case hq => kernel_rfl))
    all_goals (apply dtk 2; (case hi => rfl); (case hop => (apply prd; apply p_fieldAddrB <;> rfl)); (case hq => kernel_rfl))
    all_goals (apply dtk 3; (case hi => rfl); (case hop => (apply prd; apply p_fieldAddrB <;> rfl)); (case hq => kernel_rfl))
    all_goals (apply dtk 4; (case hi => rfl); (case hop => first | (apply r_loadNo; (case hx => rfl); (case h => (repeat (fail))); (case hd => (repeat (fail))); (case hn => rfl)) | (apply r_load1; rfl; (apply Cell.own; (case h => (repeat (first | exact mhd _ | apply mtl))); rfl)) | (apply r_loadN; rfl; (apply CellsAt.own; (case h => (repeat (fail)))); rfl)); (case hq => kernel_rfl))
    all_goals (apply dtk 5; (case hi => rfl); (case hop => (apply prd; apply p_fieldAddrB <;> rfl)); (case hq => kernel_rfl))
    all_goals (apply dtk 6; (case hi => rfl); (case hop => first | (apply r_loadNo; (case hx => rfl); (case h => (repeat (fail))); (case hd => (repeat (fail))); (case hn => rfl)) | (apply r_load1; rfl; (apply Cell.own; (case h => (repeat (exact mhd _))); rfl)) | (apply r_loadN; rfl; (apply CellsAt.own; (case h => (repeat (fail)))); rfl)); (case hq => kernel_rfl))
    focus
      refine d_fork 7 11 (by kernel_rfl) ?_ ?_
      rotate_right
      focus
        (apply x_exec 11; (case hi => rfl); (case hop => exact m_alloc rfl); (case hd => rfl); rintro _ _ _ ⟨eb, rfl, rfl, rfl⟩; refine ⟨(by intro e he; (simp at he; simp [he]; done)), ?_⟩)
        all_goals (apply d_callJ 7 (hs := qf); (case hi => rfl); (case hr => kernel_rfl); (case ha => rfl); (case hd => rfl))
        all_goals (apply dtk 8; (case hi => rfl); (case hop => (apply prd; apply p_move <;> rfl)); (case hq => kernel_rfl))
        all_goals (apply dtk 9; (case hi => rfl); (case hop => (apply prd; apply p_extract0 <;> rfl)); (case hq => kernel_rfl))
        all_goals (apply dtk 10; (case hi => rfl); (case hop => (apply prd; apply p_extract1 <;> rfl)); (case hq => kernel_rfl))
        all_goals (apply d_store 12; (case hi => rfl); (case hr => kernel_rfl); (case hL => infer_instance); (case hp => rfl); (case hx => rfl); (case hc => rfl); (case hsz => rfl); (case h1 => rfl); (case hb => (repeat (exact mhd _))); (case hfit => exact nle rfl); (case hov => ((repeat (first | with_reducible exact ov_nil | apply ov_cons)); done)); (case hu => repeat (exact Upd.here _ _)); (case hν' => intro e he; (simp at he; simp [he]; done)))
        all_goals (apply dtk 13; (case hi => rfl); (case hop => (apply prd; apply p_assign <;> rfl)); (case hq => kernel_rfl))
        all_goals (apply d_done; (case hr => kernel_rfl))
      rotate_right
      focus
        (apply x_exec 7; (case hi => rfl); (case hop => apply m_callFJ (hs := qf) <;> rfl); (case hd => rfl); rintro _ _ _ ⟨rfl, rfl, rfl⟩; refine ⟨(by intro e he; exact he), ?_⟩)
        all_goals (apply dtk 8; (case hi => rfl); (case hop => (apply prd; apply p_move <;> rfl)); (case hq => kernel_rfl))
        all_goals (apply dtk 9; (case hi => rfl); (case hop => (apply prd; apply p_extract0 <;> rfl)); (case hq => kernel_rfl))
        all_goals (apply dtk 10; (case hi => rfl); (case hop => (apply prd; apply p_extract1 <;> rfl)); (case hq => kernel_rfl))
        all_goals (apply d_exec 11; (case hi => rfl); (case hr => kernel_rfl); (case hop => exact m_alloc rfl); (case hd => rfl); rintro _ _ _ ⟨eb, rfl, rfl, rfl⟩; refine ⟨(by intro e he; (simp at he; simp [he]; done)), ?_⟩)
        all_goals (apply d_store 12; (case hi => rfl); (case hr => kernel_rfl); (case hL => infer_instance); (case hp => rfl); (case hx => rfl); (case hc => rfl); (case hsz => rfl); (case h1 => rfl); (case hb => (repeat (exact mhd _))); (case hfit => exact nle rfl); (case hov => ((repeat (first | with_reducible exact ov_nil | apply ov_cons)); done)); (case hu => repeat (exact Upd.here _ _)); (case hν' => intro e he; (simp at he; simp [he]; done)))
        all_goals (apply dtk 13; (case hi => rfl); (case hop => (apply prd; apply p_assign <;> rfl)); (case hq => kernel_rfl))
        all_goals (apply d_done; (case hr => kernel_rfl))
    all_goals
      repeat' (first | apply v_seq)
    all_goals
      refine d_start _ (by kernel_rfl) (by kernel_rfl) (by kernel_rfl) (fun _ he => he) ?_
      all_goals (apply dtk 0; (case hi => rfl); (case hop => (apply prd; apply p_move <;> rfl)); (case hq => kernel_rfl))
      all_goals (apply dtk 1; (case hi => rfl); (case hop => (apply prd; apply p_not <;> rfl)); (case hq => kernel_rfl))
      all_goals (apply dtk 2; (case hi => rfl); (case hop => (apply prd; apply p_move <;> rfl)); (case hq => kernel_rfl))
      all_goals (try (apply d_guardB 3; (case hi => rfl); (case hgd => rfl); (case h1 => rfl); (case h2 => rfl); all_goals (intro h; (try simp only [reduceCtorEq, zzz] at h))))
      all_goals (apply dtg 3; (case hi => rfl); (case hg => rfl); (case hop => (apply prd; apply p_fieldAddrB <;> rfl)); (case hq => kernel_rfl))
      all_goals (try (apply d_guardB 4; (case hi => rfl); (case hgd => rfl); (case h1 => rfl); (case h2 => rfl); all_goals (intro h; (try simp only [reduceCtorEq, zzz] at h))))
      all_goals (apply dtg 4; (case hi => rfl); (case hg => rfl); (case hop => first | (apply r_loadNo; (case hx => rfl); (case h => (repeat (fail))); (case hd => (repeat (fail))); (case hn => rfl)) | (apply r_load1; rfl; (apply Cell.own; (case h => (repeat (first | exact mhd _ | apply mtl))); rfl)) | (apply r_loadN; rfl; (apply CellsAt.own; (case h => (repeat (fail)))); rfl)); (case hq => kernel_rfl))
      all_goals (try (apply d_guardB 5; (case hi => rfl); (case hgd => rfl); (case h1 => rfl); (case h2 => rfl); all_goals (intro h; (try simp only [reduceCtorEq, zzz] at h))))
      all_goals (apply dtg 5; (case hi => rfl); (case hg => rfl); (case hop => (apply prd; apply p_move <;> rfl)); (case hq => kernel_rfl))
      all_goals (try (apply d_guardB 6; (case hi => rfl); (case hgd => rfl); (case h1 => rfl); (case h2 => rfl); all_goals (intro h; (try simp only [reduceCtorEq, zzz] at h))))
      all_goals (apply dtg 6; (case hi => rfl); (case hg => rfl); (case hop => (apply prd; apply p_nilCheck <;> rfl)); (case hq => kernel_rfl))
      all_goals (try (apply d_guardB 7; (case hi => rfl); (case hgd => rfl); (case h1 => rfl); (case h2 => rfl); all_goals (intro h; (try simp only [reduceCtorEq, zzz] at h))))
      all_goals (apply dtg 7; (case hi => rfl); (case hg => rfl); (case hop => (apply prd; apply p_fieldAddrB <;> rfl)); (case hq => kernel_rfl))
      all_goals (try (apply d_guardB 8; (case hi => rfl); (case hgd => rfl); (case h1 => rfl); (case h2 => rfl); all_goals (intro h; (try simp only [reduceCtorEq, zzz] at h))))
      all_goals (apply dtg 8; (case hi => rfl); (case hg => rfl); (case hop => (apply prd; apply p_fieldAddrB <;> rfl)); (case hq => kernel_rfl))
      all_goals (try (apply d_guardB 9; (case hi => rfl); (case hgd => rfl); (case h1 => rfl); (case h2 => rfl); all_goals (intro h; (try simp only [reduceCtorEq, zzz] at h))))
      all_goals (apply dtg 9; (case hi => rfl); (case hg => rfl); (case hop => first | (apply r_loadNo; (case hx => rfl); (case h => (repeat (fail))); (case hd => (repeat (fail))); (case hn => rfl)) | (apply r_load1; rfl; (apply Cell.own; (case h => (repeat (first | exact mhd _ | apply mtl))); rfl)) | (apply r_loadN; rfl; (apply CellsAt.own; (case h => (repeat (fail)))); rfl)); (case hq => kernel_rfl))
      all_goals (try (apply d_guardB 10; (case hi => rfl); (case hgd => rfl); (case h1 => rfl); (case h2 => rfl); all_goals (intro h; (try simp only [reduceCtorEq, zzz] at h))))
      all_goals (apply dtg 10; (case hi => rfl); (case hg => rfl); (case hop => (apply prd; apply p_gt <;> rfl)); (case hq => kernel_rfl))
      all_goals (apply dtk 11; (case hi => rfl); (case hop => (apply prd; apply p_pickT <;> rfl)); (case hq => kernel_rfl))
      all_goals (apply d_done; (case hr => kernel_rfl))
    all_goals
      repeat' (first | apply v_skip | (apply v_cond; (case hc => rfl); all_goals (intro h; (try simp only [reduceCtorEq, zzz] at h))) | fail)
    · have hlt := h
      refine d_start [(xb, .cells (recL x.kind x.round x.node x.index x.cmd iv).toArray 42 (0, 0))] (by kernel_rfl) (by kernel_rfl) (by kernel_rfl) (by intro e he; (simp at he; simp [he]; done)) ?_
      all_goals (apply dtk 0; (case hi => rfl); (case hop => (apply prd; apply p_move <;> rfl)); (case hq => kernel_rfl))
      all_goals (apply dtk 1; (case hi => rfl); (case hop => (apply prd; apply p_move <;> rfl)); (case hq => kernel_rfl))
      all_goals (apply dtk 2; (case hi => rfl); (case hop => (apply prd; apply p_nilCheck <;> rfl)); (case hq => kernel_rfl))
      all_goals (apply dtk 3; (case hi => rfl); (case hop => (apply prd; apply p_fieldAddrB <;> rfl)); (case hq => kernel_rfl))
      all_goals (apply dtk 4; (case hi => rfl); (case hop => (apply prd; apply p_fieldAddrB <;> rfl)); (case hq => kernel_rfl))
      all_goals (apply dtk 6; (case hi => rfl); (case hop => (apply prd; apply p_fieldAddrB <;> rfl)); (case hq => kernel_rfl))
      all_goals (apply dtk 7; (case hi => rfl); (case hop => first | (apply r_loadNo; (case hx => rfl); (case h => (repeat (fail))); (case hd => (repeat (fail))); (case hn => rfl)) | (apply r_load1; rfl; (apply Cell.own; (case h => (repeat (exact mhd _))); rfl)) | (apply r_loadN; rfl; (apply CellsAt.own; (case h => (repeat (fail)))); rfl)); (case hq => kernel_rfl))
      all_goals (apply dtk 8; (case hi => rfl); (case hop => (apply prd; apply p_fieldAddrB <;> rfl)); (case hq => kernel_rfl))
      all_goals (apply dtk 9; (case hi => rfl); (case hop => first | (apply r_loadNo; (case hx => rfl); (case h => (repeat (exact mhd _))); (case hd => (repeat (first | with_reducible exact dt_nil | apply dt_here))); (case hn => rfl)) | (apply r_load1; rfl; (apply Cell.own; (case h => (repeat (fail))); rfl)) | (apply r_loadN; rfl; (apply CellsAt.own; (case h => (repeat (fail)))); rfl)); (case hq => kernel_rfl))
      all_goals (apply dtk 10; (case hi => rfl); (case hop => (apply prd; apply p_build; (case hz => rfl); (case hv => (simp only [List.map_cons, List.map_nil]; repeat (first | with_reducible exact evs_nil | (apply evs_cons; (case h1 => rfl))))); (case hb => (apply bldL; repeat (first | exact bld_nil | (apply bld_cons; (case hpf => rfl); (case hc => rfl); (case hs => rfl); (case hl => rfl); (case ho => ((repeat (first | with_reducible exact ov_nil | apply ov_cons)); done)))))))); (case hq => kernel_rfl))
      all_goals (apply d_keep 5 (hop := ReadOp.move ?hop); (case hi => rfl); (case hr => kernel_rfl); (case hop => (apply r_load1; rfl; (apply Cell.own; (case h => repeat (first | exact mhd _ | apply mtl)); rfl))); (case hd => rfl))
      all_goals ((apply d_call 11 (hs := qw); (case hi => rfl); (case hr => kernel_rfl);  (case ha => rfl); (case hp => exact List.Perm.refl _); (case hd => rfl); (case hν' => intro e he; simp at he; simp [he]); rintro r1 G1 ν1 - ⟨rfl, hg1⟩; obtain ⟨A2, c2, rfl, -, -⟩ := hg1.shape))
      all_goals (apply dtk 12; (case hi => rfl); (case hop => (apply prd; apply p_nilCheck <;> rfl)); (case hq => kernel_rfl))
      all_goals (apply dtk 13; (case hi => rfl); (case hop => (apply prd; apply p_fieldAddrB <;> rfl)); (case hq => kernel_rfl))
      all_goals (apply dtk 14; (case hi => rfl); (case hop => (apply prd; apply p_fieldAddrB <;> rfl)); (case hq => kernel_rfl))
      all_goals (apply d_store 15; (case hi => rfl); (case hr => kernel_rfl); (case hL => infer_instance); (case hp => rfl); (case hx => rfl); (case hc => rfl); (case hsz => rfl); (case h1 => rfl); (case hb => (repeat (first | exact mhd _ | apply mtl | apply List.mem_append_right))); (case hfit => exact nle rfl); (case hov => ((repeat (first | with_reducible exact ov_nil | apply ov_cons)); done)); (case hu => repeat (first | exact Upd.here _ _ | apply Upd.there | apply Upd.app)); (case hν' => intro e he; (simp at he; simp [he]; done)))
      all_goals (apply d_done; (case hr => kernel_rfl))
      repeat' (fail)
      refine v_frz ν1 (by repeat (exact PickA.here _)) ?_
      intro G2 hle2 hG2
      refine v_end [(hb, _)] (outsA0 rfl) (by repeat (first | exact List.Sublist.refl _ | apply List.Sublist.cons)) ?_
      rw [if_pos ⟨rfl, hlt⟩]
      exact ⟨_, rfl, _, _, _, rfl, hi.mono hle2, esle ha hle2, es_of_grow hg1 hG2 hok⟩
    · have hlt := h
      refine v_end [(hb, _)] (outsA0 rfl) (by repeat (first | exact List.Sublist.refl _ | apply List.Sublist.cons)) ?_
      rw [if_neg fun hh => hlt hh.2]
      exact ⟨_, rfl, _, _, _, rfl, hi, ha, hc⟩
    · have hlt := h
      refine d_start [(xb, .cells (recL x.kind x.round x.node x.index x.cmd iv).toArray 42 (0, 0))] (by kernel_rfl) (by kernel_rfl) (by kernel_rfl) (by intro e he; (simp at he; simp [he]; done)) ?_
      all_goals (apply dtk 0; (case hi => rfl); (case hop => (apply prd; apply p_move <;> rfl)); (case hq => kernel_rfl))
      all_goals (apply dtk 1; (case hi => rfl); (case hop => (apply prd; apply p_move <;> rfl)); (case hq => kernel_rfl))
      all_goals (apply dtk 2; (case hi => rfl); (case hop => (apply prd; apply p_nilCheck <;> rfl)); (case hq => kernel_rfl))
      all_goals (apply dtk 3; (case hi => rfl); (case hop => (apply prd; apply p_fieldAddrB <;> rfl)); (case hq => kernel_rfl))
      all_goals (apply dtk 4; (case hi => rfl); (case hop => (apply prd; apply p_fieldAddrB <;> rfl)); (case hq => kernel_rfl))
      all_goals (apply dtk 6; (case hi => rfl); (case hop => (apply prd; apply p_fieldAddrB <;> rfl)); (case hq => kernel_rfl))
      all_goals (apply dtk 7; (case hi => rfl); (case hop => first | (apply r_loadNo; (case hx => rfl); (case h => (repeat (fail))); (case hd => (repeat (fail))); (case hn => rfl)) | (apply r_load1; rfl; (apply Cell.own; (case h => (repeat (exact mhd _))); rfl)) | (apply r_loadN; rfl; (apply CellsAt.own; (case h => (repeat (fail)))); rfl)); (case hq => kernel_rfl))
      all_goals (apply dtk 8; (case hi => rfl); (case hop => (apply prd; apply p_fieldAddrB <;> rfl)); (case hq => kernel_rfl))
      all_goals (apply dtk 9; (case hi => rfl); (case hop => first | (apply r_loadNo; (case hx => rfl); (case h => (repeat (exact mhd _))); (case hd => (repeat (first | with_reducible exact dt_nil | apply dt_here))); (case hn => rfl)) | (apply r_load1; rfl; (apply Cell.own; (case h => (repeat (fail))); rfl)) | (apply r_loadN; rfl; (apply CellsAt.own; (case h => (repeat (fail)))); rfl)); (case hq => kernel_rfl))
      all_goals (apply dtk 10; (case hi => rfl); (case hop => (apply prd; apply p_build; (case hz => rfl); (case hv => (simp only [List.map_cons, List.map_nil]; repeat (first | with_reducible exact evs_nil | (apply evs_cons; (case h1 => rfl))))); (case hb => (apply bldL; repeat (first | exact bld_nil | (apply bld_cons; (case hpf => rfl); (case hc => rfl); (case hs => rfl); (case hl => rfl); (case ho => ((repeat (first | with_reducible exact ov_nil | apply ov_cons)); done)))))))); (case hq => kernel_rfl))
      all_goals (apply d_keep 5 (hop := ReadOp.move ?hop); (case hi => rfl); (case hr => kernel_rfl); (case hop => (apply r_load1; rfl; (apply Cell.own; (case h => repeat (first | exact mhd _ | apply mtl)); rfl))); (case hd => rfl))
      all_goals ((apply d_call 11 (hs := qw); (case hi => rfl); (case hr => kernel_rfl);  (case ha => rfl); (case hp => exact List.Perm.refl _); (case hd => rfl); (case hν' => intro e he; simp at he; simp [he]); rintro r1 G1 ν1 - ⟨rfl, hg1⟩; obtain ⟨A2, c2, rfl, -, -⟩ := hg1.shape))
      all_goals (apply dtk 12; (case hi => rfl); (case hop => (apply prd; apply p_nilCheck <;> rfl)); (case hq => kernel_rfl))
      all_goals (apply dtk 13; (case hi => rfl); (case hop => (apply prd; apply p_fieldAddrB <;> rfl)); (case hq => kernel_rfl))
      all_goals (apply dtk 14; (case hi => rfl); (case hop => (apply prd; apply p_fieldAddrB <;> rfl)); (case hq => kernel_rfl))
      all_goals (apply d_store 15; (case hi => rfl); (case hr => kernel_rfl); (case hL => infer_instance); (case hp => rfl); (case hx => rfl); (case hc => rfl); (case hsz => rfl); (case h1 => rfl); (case hb => (repeat (first | exact mhd _ | apply mtl | apply List.mem_append_right))); (case hfit => exact nle rfl); (case hov => ((repeat (first | with_reducible exact ov_nil | apply ov_cons)); done)); (case hu => repeat (first | exact Upd.here _ _ | apply Upd.there | apply Upd.app)); (case hν' => intro e he; (simp at he; simp [he]; done)))
      all_goals (apply d_done; (case hr => kernel_rfl))
      repeat' (fail)
      refine v_frz ν1 (by repeat (exact PickA.here _)) ?_
      intro G2 hle2 hG2
      refine v_end [(hb, _)] (outsA0 rfl) (by repeat (first | exact List.Sublist.refl _ | apply List.Sublist.cons)) ?_
      rw [if_pos ⟨rfl, hlt⟩]
      exact ⟨_, rfl, _, _, _, rfl, hi.mono hle2, esle ha hle2, es_of_grow hg1 hG2 hok⟩
    · have hlt := h
      refine v_end [(hb, _)] (outsA0 rfl) (by repeat (first | exact List.Sublist.refl _ | apply List.Sublist.cons)) ?_
      rw [if_neg fun hh => hlt hh.2]
      exact ⟨_, rfl, _, _, _, rfl, hi, ha, hc⟩
  · (refine v_enter Tryz.func155 rfl Tryz.ntmps155 rfl ?_; intro B _)
    repeat' (first | apply v_seq | apply v_region | apply v_nil | (apply v_box (zs := recL x.kind x.round x.node x.index x.cmd iv); (case hx => rfl); (case hz => rfl); (case hd => rfl); intro xb) | fail)
    refine d_start _ (by kernel_rfl) (by kernel_rfl) (by kernel_rfl) (fun _ he => he) ?_
    all_goals (apply dtk 0; (case hi => rfl); (case hop => (apply prd; apply p_move <;> rfl)); (case hq => kernel_rfl))
    all_goals (apply dtk 1; (case hi => rfl); (case hop => (apply prd; apply p_nilCheck <;> rfl)); (case hq => kernel_rfl))
    all_goals (apply dtk 2; (case hi => rfl); (case hop => (apply prd; apply p_fieldAddrB <;> rfl)); (case hq => kernel_rfl))
    all_goals (apply dtk 3; (case hi => rfl); (case hop => (apply prd; apply p_fieldAddrB <;> rfl)); (case hq => kernel_rfl))
    all_goals (apply dtk 4; (case hi => rfl); (case hop => first | (apply r_loadNo; (case hx => rfl); (case h => (repeat (fail))); (case hd => (repeat (fail))); (case hn => rfl)) | (apply r_load1; rfl; (apply Cell.own; (case h => (repeat (first | exact mhd _ | apply mtl))); rfl)) | (apply r_loadN; rfl; (apply CellsAt.own; (case h => (repeat (fail)))); rfl)); (case hq => kernel_rfl))
    all_goals (apply dtk 5; (case hi => rfl); (case hop => (apply prd; apply p_fieldAddrB <;> rfl)); (case hq => kernel_rfl))
    all_goals (apply dtk 6; (case hi => rfl); (case hop => first | (apply r_loadNo; (case hx => rfl); (case h => (repeat (fail))); (case hd => (repeat (fail))); (case hn => rfl)) | (apply r_load1; rfl; (apply Cell.own; (case h => (repeat (exact mhd _))); rfl)) | (apply r_loadN; rfl; (apply CellsAt.own; (case h => (repeat (fail)))); rfl)); (case hq => kernel_rfl))
    focus
      refine d_fork 7 11 (by kernel_rfl) ?_ ?_
      rotate_right
      focus
        (apply x_exec 11; (case hi => rfl); (case hop => exact m_alloc rfl); (case hd => rfl); rintro _ _ _ ⟨eb, rfl, rfl, rfl⟩; refine ⟨(by intro e he; (simp at he; simp [he]; done)), ?_⟩)
        all_goals (apply d_callJ 7 (hs := qf); (case hi => rfl); (case hr => kernel_rfl); (case ha => rfl); (case hd => rfl))
        all_goals (apply dtk 8; (case hi => rfl); (case hop => (apply prd; apply p_move <;> rfl)); (case hq => kernel_rfl))
        all_goals (apply dtk 9; (case hi => rfl); (case hop => (apply prd; apply p_extract0 <;> rfl)); (case hq => kernel_rfl))
        all_goals (apply dtk 10; (case hi => rfl); (case hop => (apply prd; apply p_extract1 <;> rfl)); (case hq => kernel_rfl))
        all_goals (apply d_store 12; (case hi => rfl); (case hr => kernel_rfl); (case hL => infer_instance); (case hp => rfl); (case hx => rfl); (case hc => rfl); (case hsz => rfl); (case h1 => rfl); (case hb => (repeat (exact mhd _))); (case hfit => exact nle rfl); (case hov => ((repeat (first | with_reducible exact ov_nil | apply ov_cons)); done)); (case hu => repeat (exact Upd.here _ _)); (case hν' => intro e he; (simp at he; simp [he]; done)))
        all_goals (apply dtk 13; (case hi => rfl); (case hop => (apply prd; apply p_assign <;> rfl)); (case hq => kernel_rfl))
        all_goals (apply d_done; (case hr => kernel_rfl))
      rotate_right
      focus
        (apply x_exec 7; (case hi => rfl); (case hop => apply m_callFJ (hs := qf) <;> rfl); (case hd => rfl); rintro _ _ _ ⟨rfl, rfl, rfl⟩; refine ⟨(by intro e he; exact he), ?_⟩)
        all_goals (apply dtk 8; (case hi => rfl); (case hop => (apply prd; apply p_move <;> rfl)); (case hq => kernel_rfl))
        all_goals (apply dtk 9; (case hi => rfl); (case hop => (apply prd; apply p_extract0 <;> rfl)); (case hq => kernel_rfl))
        all_goals (apply dtk 10; (case hi => rfl); (case hop => (apply prd; apply p_extract1 <;> rfl)); (case hq => kernel_rfl))
        all_goals (apply d_exec 11; (case hi => rfl); (case hr => kernel_rfl); (case hop => exact m_alloc rfl); (case hd => rfl); rintro _ _ _ ⟨eb, rfl, rfl, rfl⟩; refine ⟨(by intro e he; (simp at he; simp [he]; done)), ?_⟩)
        all_goals (apply d_store 12; (case hi => rfl); (case hr => kernel_rfl); (case hL => infer_instance); (case hp => rfl); (case hx => rfl); (case hc => rfl); (case hsz => rfl); (case h1 => rfl); (case hb => (repeat (exact mhd _))); (case hfit => exact nle rfl); (case hov => ((repeat (first | with_reducible exact ov_nil | apply ov_cons)); done)); (case hu => repeat (exact Upd.here _ _)); (case hν' => intro e he; (simp at he; simp [he]; done)))
        all_goals (apply dtk 13; (case hi => rfl); (case hop => (apply prd; apply p_assign <;> rfl)); (case hq => kernel_rfl))
        all_goals (apply d_done; (case hr => kernel_rfl))
    all_goals
      repeat' (first | apply v_seq)
    all_goals
      refine d_start _ (by kernel_rfl) (by kernel_rfl) (by kernel_rfl) (fun _ he => he) ?_
      all_goals (apply dtk 0; (case hi => rfl); (case hop => (apply prd; apply p_move <;> rfl)); (case hq => kernel_rfl))
      all_goals (apply dtk 1; (case hi => rfl); (case hop => (apply prd; apply p_not <;> rfl)); (case hq => kernel_rfl))
      all_goals (apply dtk 2; (case hi => rfl); (case hop => (apply prd; apply p_move <;> rfl)); (case hq => kernel_rfl))
      all_goals (try (apply d_guardB 3; (case hi => rfl); (case hgd => rfl); (case h1 => rfl); (case h2 => rfl); all_goals (intro h; (try simp only [reduceCtorEq, zzz] at h))))
      all_goals (apply dpa 3; (case hi => rfl); (case hg => rfl); (case hn => rfl); (case hq => kernel_rfl))
      all_goals (try (apply d_guardB 4; (case hi => rfl); (case hgd => rfl); (case h1 => rfl); (case h2 => rfl); all_goals (intro h; (try simp only [reduceCtorEq, zzz] at h))))
      all_goals (apply dpa 4; (case hi => rfl); (case hg => rfl); (case hn => rfl); (case hq => kernel_rfl))
      all_goals (try (apply d_guardB 5; (case hi => rfl); (case hgd => rfl); (case h1 => rfl); (case h2 => rfl); all_goals (intro h; (try simp only [reduceCtorEq, zzz] at h))))
      all_goals (apply dpa 5; (case hi => rfl); (case hg => rfl); (case hn => rfl); (case hq => kernel_rfl))
      all_goals (try (apply d_guardB 6; (case hi => rfl); (case hgd => rfl); (case h1 => rfl); (case h2 => rfl); all_goals (intro h; (try simp only [reduceCtorEq, zzz] at h))))
      all_goals (apply dpa 6; (case hi => rfl); (case hg => rfl); (case hn => rfl); (case hq => kernel_rfl))
      all_goals (try (apply d_guardB 7; (case hi => rfl); (case hgd => rfl); (case h1 => rfl); (case h2 => rfl); all_goals (intro h; (try simp only [reduceCtorEq, zzz] at h))))
      all_goals (apply dpa 7; (case hi => rfl); (case hg => rfl); (case hn => rfl); (case hq => kernel_rfl))
      all_goals (try (apply d_guardB 8; (case hi => rfl); (case hgd => rfl); (case h1 => rfl); (case h2 => rfl); all_goals (intro h; (try simp only [reduceCtorEq, zzz] at h))))
      all_goals (apply dpa 8; (case hi => rfl); (case hg => rfl); (case hn => rfl); (case hq => kernel_rfl))
      all_goals (try (apply d_guardB 9; (case hi => rfl); (case hgd => rfl); (case h1 => rfl); (case h2 => rfl); all_goals (intro h; (try simp only [reduceCtorEq, zzz] at h))))
      all_goals (apply dpa 9; (case hi => rfl); (case hg => rfl); (case hn => rfl); (case hq => kernel_rfl))
      all_goals (try (apply d_guardB 10; (case hi => rfl); (case hgd => rfl); (case h1 => rfl); (case h2 => rfl); all_goals (intro h; (try simp only [reduceCtorEq, zzz] at h))))
      all_goals (apply dpa 10; (case hi => rfl); (case hg => rfl); (case hn => rfl); (case hq => kernel_rfl))
      all_goals (apply dtk 11; (case hi => rfl); (case hop => (apply prd; apply p_pickF <;> rfl)); (case hq => kernel_rfl))
      all_goals (apply d_done; (case hr => kernel_rfl))
    all_goals
      repeat' (first | apply v_skip | (apply v_condF; (case hc => rfl)) | fail)
    all_goals
      (refine v_end [(hb, _)] (outsA0 rfl) (by repeat (first | exact List.Sublist.refl _ | apply List.Sublist.cons)) ?_
       rw [if_neg (by simp)]
       exact ⟨_, rfl, _, _, _, rfl, hi, ha, hc⟩)
noncomputable def takeH (h : Hd) (x : Rc) : Hd := if x.index ≤ h.base then h else { h with base := x.index, image := x.image, acc := h.acc.drop (placeN h.acc (x.index + 1)), cho := h.cho.drop (placeN h.cho (x.index + 1)) }
theorem take_s {G : GH} {H : Hd} {L : List Value} {x : Rc} {xv : Value} {n : Nat} (hb : Nat) (hh : HdV G H L) (g : Good n H) (hn : n ≤ 200) (hx : RcV G x xv) (him : x.image.length ≤ 40000) (hxi : 0 ≤ x.index ∧ x.index ≤ 4294967296) :
    Con Tryz.prog 156 #[.pointer (some ⟨hb, 0, none⟩), xv] G [(hb, hdO L)] (fun _ G' μ' => ∃ L', μ' = [(hb, hdO L')] ∧ HdV G' (takeH H x) L') := by
  obtain ⟨im, av, cv, rfl, hi, ha, hc⟩ := hh
  obtain ⟨A0, c0, rfl, -⟩ := id hi.openInt
  obtain ⟨A1, c1, rfl, -⟩ := id ha.open
  obtain ⟨A2, c2, rfl, -⟩ := id hc.open
  obtain ⟨iv, rfl, hxv⟩ := hx
  obtain ⟨A3, c3, rfl, -⟩ := id hxv.openInt
  have qc := bclone_s hxv (by omega)
  have hwf := hxv.openInt
  obtain ⟨_, _, -, -, -, -, -, hwx⟩ := hwf
  have hna := g.nacc
  have hnc := g.ncho
  unfold takeH
  generalize hivl : Value.slice A3 x.image.length c3 = iv at *
  (refine v_enter Tryz.func156 rfl Tryz.ntmps156 rfl ?_; intro B _)
  repeat' (first | apply v_seq | apply v_region | apply v_nil | (apply v_box (zs := recL x.kind x.round x.node x.index x.cmd iv); (case hx => rfl); (case hz => rfl); (case hd => rfl); intro xb) | fail)
  refine d_start _ (by kernel_rfl) (by kernel_rfl) (by kernel_rfl) (fun _ he => he) ?_
  all_goals (apply dtk 0; (case hi => rfl); (case hop => (apply prd; apply p_fieldAddrB <;> rfl)); (case hq => kernel_rfl))
  all_goals (apply dtk 1; (case hi => rfl); (case hop => first | (apply r_loadNo; (case hx => rfl); (case h => (repeat (fail))); (case hd => (repeat (fail))); (case hn => rfl)) | (apply r_load1; rfl; (apply Cell.own; (case h => (repeat (exact mhd _))); rfl)) | (apply r_loadN; rfl; (apply CellsAt.own; (case h => (repeat (fail)))); rfl)); (case hq => kernel_rfl))
  all_goals (apply dtk 2; (case hi => rfl); (case hop => (apply prd; apply p_move <;> rfl)); (case hq => kernel_rfl))
  all_goals (apply dtk 3; (case hi => rfl); (case hop => (apply prd; apply p_nilCheck <;> rfl)); (case hq => kernel_rfl))
  all_goals (apply dtk 4; (case hi => rfl); (case hop => (apply prd; apply p_fieldAddrB <;> rfl)); (case hq => kernel_rfl))
  all_goals (apply dtk 5; (case hi => rfl); (case hop => (apply prd; apply p_fieldAddrB <;> rfl)); (case hq => kernel_rfl))
  all_goals (apply dtk 6; (case hi => rfl); (case hop => first | (apply r_loadNo; (case hx => rfl); (case h => (repeat (fail))); (case hd => (repeat (fail))); (case hn => rfl)) | (apply r_load1; rfl; (apply Cell.own; (case h => (repeat (first | exact mhd _ | apply mtl))); rfl)) | (apply r_loadN; rfl; (apply CellsAt.own; (case h => (repeat (fail)))); rfl)); (case hq => kernel_rfl))
  all_goals (apply dtk 7; (case hi => rfl); (case hop => (apply prd; apply p_le <;> rfl)); (case hq => kernel_rfl))
  all_goals (apply d_done; (case hr => kernel_rfl))
  repeat' (first | apply v_seq | apply v_skip | (apply v_cond; (case hc => rfl); all_goals (intro h; (try simp only [reduceCtorEq, zzz] at h))) | fail)
  · have hle := h
    refine v_ret [(hb, _)] (outsA0 rfl) (by repeat (first | exact List.Sublist.refl _ | apply List.Sublist.cons)) ?_
    rw [if_pos hle]
    exact ⟨_, rfl, _, _, _, rfl, hi, ha, hc⟩
  · have hgt := h
    rw [if_neg hgt]
    subst hivl
    refine d_start [(xb, .cells (recL x.kind x.round x.node x.index x.cmd (.slice A3 x.image.length c3)).toArray 42 (0, 0))] (by kernel_rfl) (by kernel_rfl) (by kernel_rfl) (by intro e he; (simp at he; simp [he]; done)) ?_
    all_goals (apply dtk 0; (case hi => rfl); (case hop => (apply prd; apply p_move <;> rfl)); (case hq => kernel_rfl))
    all_goals (apply dtk 1; (case hi => rfl); (case hop => (apply prd; apply p_move <;> rfl)); (case hq => kernel_rfl))
    all_goals (apply dtk 2; (case hi => rfl); (case hop => (apply prd; apply p_fieldAddrB <;> rfl)); (case hq => kernel_rfl))
    all_goals (apply dtk 3; (case hi => rfl); (case hop => first | (apply r_loadNo; (case hx => rfl); (case h => (repeat (fail))); (case hd => (repeat (fail))); (case hn => rfl)) | (apply r_load1; rfl; (apply Cell.own; (case h => (repeat (exact mhd _))); rfl)) | (apply r_loadN; rfl; (apply CellsAt.own; (case h => (repeat (fail)))); rfl)); (case hq => kernel_rfl))
    all_goals (apply dtk 4; (case hi => rfl); (case hop => (apply prd; apply p_fieldAddrB <;> rfl)); (case hq => kernel_rfl))
    all_goals (apply dtk 5; (case hi => rfl); (case hop => first | (apply r_loadNo; (case hx => rfl); (case h => (repeat (fail))); (case hd => (repeat (fail))); (case hn => rfl)) | (apply r_load1; rfl; (apply Cell.own; (case h => (repeat (exact mhd _))); rfl)) | (apply r_loadN; rfl; (apply CellsAt.own; (case h => (repeat (fail)))); rfl)); (case hq => kernel_rfl))
    all_goals ((apply d_call 6 (hs := qc); (case hi => rfl); (case hr => kernel_rfl);  (case ha => rfl); (case hp => exact List.Perm.refl _); (case hd => rfl); (case hν' => intro e he; simp at he; simp [he]); rintro r1 G1 ν1 - ⟨rfl, hg1⟩; obtain ⟨A4, c4, rfl, -, -⟩ := hg1.shape))
    all_goals (apply dtk 7; (case hi => rfl); (case hop => (apply prd; apply p_nilCheck <;> rfl)); (case hq => kernel_rfl))
    all_goals (apply dtk 8; (case hi => rfl); (case hop => (apply prd; apply p_fieldAddrB <;> rfl)); (case hq => kernel_rfl))
    all_goals (apply dtk 9; (case hi => rfl); (case hop => (apply prd; apply p_fieldAddrB <;> rfl)); (case hq => kernel_rfl))
    all_goals (apply d_store 10; (case hi => rfl); (case hr => kernel_rfl); (case hL => infer_instance); (case hp => rfl); (case hx => rfl); (case hc => rfl); (case hsz => rfl); (case h1 => rfl); (case hb => (repeat (first | exact mhd _ | apply mtl | apply List.mem_append_right))); (case hfit => exact nle rfl); (case hov => ((repeat (first | with_reducible exact ov_nil | apply ov_cons)); done)); (case hu => repeat (first | exact Upd.here _ _ | apply Upd.there | apply Upd.app)); (case hν' => intro e he; (simp at he; simp [he]; done)))
    all_goals (apply dtk 11; (case hi => rfl); (case hop => (apply prd; apply p_nilCheck <;> rfl)); (case hq => kernel_rfl))
    all_goals (apply dtk 12; (case hi => rfl); (case hop => (apply prd; apply p_fieldAddrB <;> rfl)); (case hq => kernel_rfl))
    all_goals (apply dtk 13; (case hi => rfl); (case hop => (apply prd; apply p_fieldAddrB <;> rfl)); (case hq => kernel_rfl))
    all_goals (apply d_store 14; (case hi => rfl); (case hr => kernel_rfl); (case hL => infer_instance); (case hp => rfl); (case hx => rfl); (case hc => rfl); (case hsz => rfl); (case h1 => rfl); (case hb => (repeat (first | exact mhd _ | apply mtl | apply List.mem_append_right))); (case hfit => exact nle rfl); (case hov => ((repeat (first | with_reducible exact ov_nil | apply ov_cons)); done)); (case hu => repeat (first | exact Upd.here _ _ | apply Upd.there | apply Upd.app)); (case hν' => intro e he; (simp at he; simp [he]; done)))
    all_goals (apply d_done; (case hr => kernel_rfl))
    repeat' (first | apply v_seq)
    refine v_frz ν1 (by repeat (exact PickA.here _)) ?_
    intro G2 hle2 hG2
    have hi2 := hg1.ints hG2 hwx
    have ha2 := esle ha hle2
    have qa := from_s (x.index + 1) ha2 g.racc (by omega)
    refine d_start [(xb, .cells (recL x.kind x.round x.node x.index x.cmd (.slice A3 x.image.length c3)).toArray 42 (0, 0))] (by kernel_rfl) (by kernel_rfl) (by kernel_rfl) (by intro e he; (simp at he; simp [he]; done)) ?_
    all_goals (apply dtk 0; (case hi => rfl); (case hop => (apply prd; apply p_move <;> rfl)); (case hq => kernel_rfl))
    all_goals (apply dtk 1; (case hi => rfl); (case hop => (apply prd; apply p_move <;> rfl)); (case hq => kernel_rfl))
    all_goals (apply dtk 2; (case hi => rfl); (case hop => (apply prd; apply p_nilCheck <;> rfl)); (case hq => kernel_rfl))
    all_goals (apply dtk 3; (case hi => rfl); (case hop => (apply prd; apply p_fieldAddrB <;> rfl)); (case hq => kernel_rfl))
    all_goals (apply dtk 4; (case hi => rfl); (case hop => (apply prd; apply p_fieldAddrB <;> rfl)); (case hq => kernel_rfl))
    all_goals (apply dtk 6; (case hi => rfl); (case hop => (apply prd; apply p_fieldAddrB <;> rfl)); (case hq => kernel_rfl))
    all_goals (apply dtk 7; (case hi => rfl); (case hop => first | (apply r_loadNo; (case hx => rfl); (case h => (repeat (fail))); (case hd => (repeat (fail))); (case hn => rfl)) | (apply r_load1; rfl; (apply Cell.own; (case h => (repeat (exact mhd _))); rfl)) | (apply r_loadN; rfl; (apply CellsAt.own; (case h => (repeat (fail)))); rfl)); (case hq => kernel_rfl))
    all_goals (apply dtk 8; (case hi => rfl); (case hop => (apply prd; apply p_add; (case hx => rfl); (case hy => rfl); (case h => omega))); (case hq => kernel_rfl))
    all_goals (apply d_keep 5 (hop := ReadOp.move ?hop); (case hi => rfl); (case hr => kernel_rfl); (case hop => (apply r_load1; rfl; (apply Cell.own; (case h => repeat (first | exact mhd _ | apply mtl)); rfl))); (case hd => rfl))
    all_goals ((apply d_call 9 (hs := qa); (case hi => rfl); (case hr => kernel_rfl);  (case ha => rfl); (case hp => exact List.Perm.refl _); (case hd => rfl); (case hν' => intro e he; simp at he; simp [he]); rintro r1 G1 ν5 - ⟨rfl, hg5⟩; obtain ⟨A5, c5, rfl, -, -⟩ := hg5.shape))
    all_goals (apply dtk 10; (case hi => rfl); (case hop => (apply prd; apply p_nilCheck <;> rfl)); (case hq => kernel_rfl))
    all_goals (apply dtk 11; (case hi => rfl); (case hop => (apply prd; apply p_fieldAddrB <;> rfl)); (case hq => kernel_rfl))
    all_goals (apply dtk 12; (case hi => rfl); (case hop => (apply prd; apply p_fieldAddrB <;> rfl)); (case hq => kernel_rfl))
    all_goals (apply d_store 13; (case hi => rfl); (case hr => kernel_rfl); (case hL => infer_instance); (case hp => rfl); (case hx => rfl); (case hc => rfl); (case hsz => rfl); (case h1 => rfl); (case hb => (repeat (first | exact mhd _ | apply mtl | apply List.mem_append_right))); (case hfit => exact nle rfl); (case hov => ((repeat (first | with_reducible exact ov_nil | apply ov_cons)); done)); (case hu => repeat (first | exact Upd.here _ _ | apply Upd.there | apply Upd.app)); (case hν' => intro e he; (simp at he; simp [he]; done)))
    all_goals (apply d_done; (case hr => kernel_rfl))
    repeat' (fail)
    refine v_frz ν5 (by repeat (exact PickA.here _)) ?_
    intro G4 hle4 hG4
    have hc4 := esle (esle hc hle2) hle4
    have hi4 := hi2.mono hle4
    have ha4 := es_of_grow hg5 hG4 (fun y hy => by
      have := (g.acc y (List.mem_of_mem_drop hy))
      exact this.2.1)
    have qc := from_s (x.index + 1) hc4 g.rcho (by omega)
    refine d_start [(xb, .cells (recL x.kind x.round x.node x.index x.cmd (.slice A3 x.image.length c3)).toArray 42 (0, 0))] (by kernel_rfl) (by kernel_rfl) (by kernel_rfl) (by intro e he; (simp at he; simp [he]; done)) ?_
    all_goals (apply dtk 0; (case hi => rfl); (case hop => (apply prd; apply p_move <;> rfl)); (case hq => kernel_rfl))
    all_goals (apply dtk 1; (case hi => rfl); (case hop => (apply prd; apply p_move <;> rfl)); (case hq => kernel_rfl))
    all_goals (apply dtk 2; (case hi => rfl); (case hop => (apply prd; apply p_nilCheck <;> rfl)); (case hq => kernel_rfl))
    all_goals (apply dtk 3; (case hi => rfl); (case hop => (apply prd; apply p_fieldAddrB <;> rfl)); (case hq => kernel_rfl))
    all_goals (apply dtk 4; (case hi => rfl); (case hop => (apply prd; apply p_fieldAddrB <;> rfl)); (case hq => kernel_rfl))
    all_goals (apply dtk 6; (case hi => rfl); (case hop => (apply prd; apply p_fieldAddrB <;> rfl)); (case hq => kernel_rfl))
    all_goals (apply dtk 7; (case hi => rfl); (case hop => first | (apply r_loadNo; (case hx => rfl); (case h => (repeat (fail))); (case hd => (repeat (fail))); (case hn => rfl)) | (apply r_load1; rfl; (apply Cell.own; (case h => (repeat (exact mhd _))); rfl)) | (apply r_loadN; rfl; (apply CellsAt.own; (case h => (repeat (fail)))); rfl)); (case hq => kernel_rfl))
    all_goals (apply dtk 8; (case hi => rfl); (case hop => (apply prd; apply p_add; (case hx => rfl); (case hy => rfl); (case h => omega))); (case hq => kernel_rfl))
    all_goals (apply d_keep 5 (hop := ReadOp.move ?hop); (case hi => rfl); (case hr => kernel_rfl); (case hop => (apply r_load1; rfl; (apply Cell.own; (case h => repeat (first | exact mhd _ | apply mtl)); rfl))); (case hd => rfl))
    all_goals ((apply d_call 9 (hs := qc); (case hi => rfl); (case hr => kernel_rfl);  (case ha => rfl); (case hp => exact List.Perm.refl _); (case hd => rfl); (case hν' => intro e he; simp at he; simp [he]); rintro r1 G1 ν6 - ⟨rfl, hg6⟩; obtain ⟨A6, c6, rfl, -, -⟩ := hg6.shape))
    all_goals (apply dtk 10; (case hi => rfl); (case hop => (apply prd; apply p_nilCheck <;> rfl)); (case hq => kernel_rfl))
    all_goals (apply dtk 11; (case hi => rfl); (case hop => (apply prd; apply p_fieldAddrB <;> rfl)); (case hq => kernel_rfl))
    all_goals (apply dtk 12; (case hi => rfl); (case hop => (apply prd; apply p_fieldAddrB <;> rfl)); (case hq => kernel_rfl))
    all_goals (apply d_store 13; (case hi => rfl); (case hr => kernel_rfl); (case hL => infer_instance); (case hp => rfl); (case hx => rfl); (case hc => rfl); (case hsz => rfl); (case h1 => rfl); (case hb => (repeat (first | exact mhd _ | apply mtl | apply List.mem_append_right))); (case hfit => exact nle rfl); (case hov => ((repeat (first | with_reducible exact ov_nil | apply ov_cons)); done)); (case hu => repeat (first | exact Upd.here _ _ | apply Upd.there | apply Upd.app)); (case hν' => intro e he; (simp at he; simp [he]; done)))
    all_goals (apply d_done; (case hr => kernel_rfl))
    repeat' (fail)
    refine v_frz ν6 (by repeat (exact PickA.here _)) ?_
    intro G6 hle6 hG6
    have hc6 := es_of_grow hg6 hG6 (fun y hy => by
      have := (g.cho y (List.mem_of_mem_drop hy))
      exact this.2.1)
    refine v_end [(hb, _)] (outsA0 rfl) (by repeat (first | exact List.Sublist.refl _ | apply List.Sublist.cons)) ?_
    exact ⟨_, rfl, _, _, _, rfl, hi4.mono hle6, esle ha4 hle6, hc6⟩
theorem chg_eq (h : Hd) (x : Rc) : chg h x = if x.kind = 1 then h.prom x else if x.kind = 2 then accH h x else if x.kind = 3 then choH h x else takeH h x := rfl
theorem entOf_ok {x : Rc} (hx : chkI x = 0) (hc : x.cmd.ok) : (entOf x).ok ∧ (⟨x.index, 0, 0, x.cmd⟩ : Ent).ok ∧ 0 ≤ x.index ∧ x.index ≤ 4294967296 ∧ x.image.length ≤ 32768 := by
  have h0 : recI x.kind x.round x.node x.index x.cmd x.image.length = 0 := hx
  obtain ⟨hk, hr, hi, hcc, ho⟩ := rec0 h0
  obtain ⟨hfit, hsm, him, hsz⟩ := fits0 h0
  unfold ranP mayP at hr
  have hr0 : 0 ≤ x.round ∧ x.round ≤ 4294967296 := by unfold othP at ho; omega
  have hn0 : 0 ≤ x.node ∧ x.node ≤ 9 := by unfold othP at ho; omega
  have hi0 : 0 ≤ x.index ∧ x.index ≤ 4294967296 := by unfold othP at ho; omega
  exact ⟨⟨wf64 (n := x.index) (by omega), wf64 (n := x.round) (by omega), wf64 (n := x.node) (by omega), hc⟩, ⟨wf64 (n := x.index) (by omega), wf64 (n := 0) (by omega), wf64 (n := 0) (by omega), hc⟩, hi0.1, hi0.2, him⟩
theorem change_s {G : GH} {H : Hd} {L : List Value} {x : Rc} {xv : Value} {n : Nat} (hb : Nat) (hh : HdV G H L) (g : Good n H) (hn : n ≤ 200) (hx : RcV G x xv) (hv : chkI x = 0) (hc : x.cmd.ok) :
    Con Tryz.prog 108 #[.pointer (some ⟨hb, 0, none⟩), xv] G [(hb, hdO L)] (fun _ G' μ' => ∃ L', μ' = [(hb, hdO L')] ∧ HdV G' (chg H x) L') := by
  obtain ⟨e1, e2, e3, e4, e5⟩ := entOf_ok hv hc
  have hk := (rec0 (show recI x.kind x.round x.node x.index x.cmd x.image.length = 0 from hv)).1
  have q2 := accept_s hb hh g hn hx (withL_ok (fun e he => (g.acc e he).2.1) e1)
  have q3 := choose_s hb hh g hn hx (withL_ok (fun e he => (g.cho e he).2.1) e2)
  have q4 := take_s hb hh g hn hx (by omega) ⟨e3, e4⟩
  have hh' := hh
  obtain ⟨im, av, cv, rfl, hi, ha, hcv⟩ := hh
  have q1 := promise_s G hb H.pr H.pn H.base x.round x.node im av cv
  obtain ⟨iv, rfl, hxv⟩ := hx
  rw [chg_eq]
  (refine v_enter Tryz.func108 rfl Tryz.ntmps108 rfl ?_; intro B _)
  obtain k | k | k | k : x.kind = 1 ∨ x.kind = 2 ∨ x.kind = 3 ∨ x.kind = 4 := by omega
  · rw [if_pos k, prom_max]
    repeat' (first | apply v_seq | apply v_region | apply v_nil | apply v_block | (apply v_pure; (case hop => first | (apply p_move <;> rfl) | (apply p_eq <;> rfl) | (apply p_assign <;> rfl) | (apply p_fieldAddrB <;> rfl) | fail); (case hd => rfl)) | (apply v_cond; (case hc => rfl); all_goals (intro h; (try simp only [reduceCtorEq, zzz] at h); first | (exfalso; omega) | skip)) | (apply v_box (zs := recL x.kind x.round x.node x.index x.cmd iv); (case hx => rfl); (case hz => rfl); (case hd => rfl); intro xb) | (apply v_read; (case hop => first | (apply r_loadNo; (case hx => rfl); (case h => (repeat (exact mhd _))); (case hd => (repeat (first | with_reducible exact dt_nil | apply dt_here))); (case hn => rfl)) | (apply r_load1; rfl; (apply Cell.own; (case h => (repeat (exact mhd _))); rfl)) | fail); (case hd => rfl)) | fail)
    refine v_call (μ1 := [(hb, _)]) (μ2 := _) rfl q1 (PickA.perm (by repeat (first | exact PickA.last | apply PickA.cons))) rfl ?_
    rintro _ _ _ - ⟨rfl, rfl⟩
    repeat' (first | apply v_nil | apply v_blk)
    refine v_end [(hb, _)] (outsA0 rfl) (by repeat (first | exact List.nil_sublist _ | apply List.Sublist.cons_cons)) ?_
    exact ⟨_, rfl, _, _, _, rfl, hi, ha, hcv⟩
  · rw [if_neg (by omega), if_pos k]
    repeat' (first | apply v_seq | apply v_region | apply v_nil | apply v_block | (apply v_pure; (case hop => first | (apply p_move <;> rfl) | (apply p_eq <;> rfl) | (apply p_assign <;> rfl) | (apply p_fieldAddrB <;> rfl) | fail); (case hd => rfl)) | (apply v_cond; (case hc => rfl); all_goals (intro h; (try simp only [reduceCtorEq, zzz] at h); first | (exfalso; omega) | skip)) | (apply v_box (zs := recL x.kind x.round x.node x.index x.cmd iv); (case hx => rfl); (case hz => rfl); (case hd => rfl); intro xb) | (apply v_read; (case hop => first | (apply r_loadNo; (case hx => rfl); (case h => (repeat (exact mhd _))); (case hd => (repeat (first | with_reducible exact dt_nil | apply dt_here))); (case hn => rfl)) | (apply r_load1; rfl; (apply Cell.own; (case h => (repeat (exact mhd _))); rfl)) | fail); (case hd => rfl)) | fail)
    refine v_call (μ1 := [(hb, _)]) (μ2 := _) rfl q2 (PickA.perm (by repeat (first | exact PickA.last | apply PickA.cons))) rfl ?_
    rintro _ G1 _ - ⟨L', rfl, h'⟩
    repeat' (first | apply v_nil | apply v_blk)
    refine v_end [(hb, _)] (outsA0 rfl) (by repeat (first | exact List.nil_sublist _ | apply List.Sublist.cons_cons)) ?_
    exact ⟨_, rfl, h'⟩
  · rw [if_neg (by omega), if_neg (by omega), if_pos k]
    repeat' (first | apply v_seq | apply v_region | apply v_nil | apply v_block | (apply v_pure; (case hop => first | (apply p_move <;> rfl) | (apply p_eq <;> rfl) | (apply p_assign <;> rfl) | (apply p_fieldAddrB <;> rfl) | fail); (case hd => rfl)) | (apply v_cond; (case hc => rfl); all_goals (intro h; (try simp only [reduceCtorEq, zzz] at h); first | (exfalso; omega) | skip)) | (apply v_box (zs := recL x.kind x.round x.node x.index x.cmd iv); (case hx => rfl); (case hz => rfl); (case hd => rfl); intro xb) | (apply v_read; (case hop => first | (apply r_loadNo; (case hx => rfl); (case h => (repeat (exact mhd _))); (case hd => (repeat (first | with_reducible exact dt_nil | apply dt_here))); (case hn => rfl)) | (apply r_load1; rfl; (apply Cell.own; (case h => (repeat (exact mhd _))); rfl)) | fail); (case hd => rfl)) | fail)
    refine v_call (μ1 := [(hb, _)]) (μ2 := _) rfl q3 (PickA.perm (by repeat (first | exact PickA.last | apply PickA.cons))) rfl ?_
    rintro _ G1 _ - ⟨L', rfl, h'⟩
    repeat' (first | apply v_nil | apply v_blk)
    refine v_end [(hb, _)] (outsA0 rfl) (by repeat (first | exact List.nil_sublist _ | apply List.Sublist.cons_cons)) ?_
    exact ⟨_, rfl, h'⟩
  · rw [if_neg (by omega), if_neg (by omega), if_neg (by omega)]
    repeat' (first | apply v_seq | apply v_region | apply v_nil | apply v_block | (apply v_pure; (case hop => first | (apply p_move <;> rfl) | (apply p_eq <;> rfl) | (apply p_assign <;> rfl) | (apply p_fieldAddrB <;> rfl) | fail); (case hd => rfl)) | (apply v_cond; (case hc => rfl); all_goals (intro h; (try simp only [reduceCtorEq, zzz] at h); first | (exfalso; omega) | skip)) | (apply v_box (zs := recL x.kind x.round x.node x.index x.cmd iv); (case hx => rfl); (case hz => rfl); (case hd => rfl); intro xb) | (apply v_read; (case hop => first | (apply r_loadNo; (case hx => rfl); (case h => (repeat (exact mhd _))); (case hd => (repeat (first | with_reducible exact dt_nil | apply dt_here))); (case hn => rfl)) | (apply r_load1; rfl; (apply Cell.own; (case h => (repeat (exact mhd _))); rfl)) | fail); (case hd => rfl)) | fail)
    refine v_call (μ1 := [(hb, _)]) (μ2 := _) rfl q4 (PickA.perm (by repeat (first | exact PickA.last | apply PickA.cons))) rfl ?_
    rintro _ G1 _ - ⟨L', rfl, h'⟩
    repeat' (first | apply v_nil | apply v_blk)
    refine v_end [(hb, _)] (outsA0 rfl) (by repeat (first | exact List.nil_sublist _ | apply List.Sublist.cons_cons)) ?_
    exact ⟨_, rfl, h'⟩
def RcR (G : GH) (x : Rc) (cs : List Value) : Prop := ∃ iv, cs = recL x.kind x.round x.node x.index x.cmd iv ∧ x.cmd.ok ∧ x.small ∧ Sl G 1 (IntR .u8) iv x.image
theorem RcR.le {G G' : GH} (h : GH.le G G') {x : Rc} {cs : List Value} (hc : RcR G x cs) : RcR G' x cs := let ⟨iv, h1, h2, h3, h4⟩ := hc; ⟨iv, h1, h2, h3, h4.mono h⟩
abbrev Rs (G : GH) (v : Value) (l : List Rc) : Prop := Sl G 12 (RcR G) v l
theorem Rs.le' {G G' : GH} (h : GH.le G G') {v : Value} {l : List Rc} (hs : Rs G v l) : Rs G' v l := Sl.le hs h fun _ _ => RcR.le h
theorem rsOpen {G : GH} {v : Value} {l : List Rc} (h : Rs G v l) : ∃ A c, ∃ (iv : Nat → Value), v = .slice A l.length c ∧ l.length ≤ c ∧ c ≤ maxLen ∧ (0 < l.length → A.isSome = true) ∧
    (∀ i (h : i < l.length), CellsG G ((adr A).add (i * 12)) (recL l[i].kind l[i].round l[i].node l[i].index l[i].cmd (iv i))) ∧ (∀ i (h : i < l.length), Sl G 1 (IntR .u8) (iv i) l[i].image) ∧ (∀ x ∈ l, x.cmd.ok ∧ x.small) := by
  obtain ⟨A, c, rfl, h1, h2, h3, h4⟩ := h.open
  have key : ∀ i, ∃ m : Value, ∀ (h : i < l.length), CellsG G ((adr A).add (i * 12)) (recL l[i].kind l[i].round l[i].node l[i].index l[i].cmd m) ∧ Sl G 1 (IntR .u8) m l[i].image ∧ (l[i].cmd.ok ∧ l[i].small) := fun i => by
    by_cases hi : i < l.length
    · obtain ⟨cs, _, ⟨iv, rfl, h6, h7, h8⟩, h5⟩ := h4 i _ (List.getElem?_eq_getElem hi)
      exact ⟨iv, fun _ => ⟨h5, h8, h6, h7⟩⟩
    · exact ⟨.slice none 0 0, fun h => absurd h hi⟩
  have hk := fun i => Classical.choose_spec (key i)
  refine ⟨A, c, fun i => Classical.choose (key i), rfl, h1, h2, h3, fun i hi => (hk i hi).1, fun i hi => (hk i hi).2.1, fun x hx => ?_⟩
  obtain ⟨i, hi, rfl⟩ := List.getElem_of_mem hx
  exact (hk i hi).2.2
theorem good_step {n : Nat} {h : Hd} (g : Good n h) {x : Rc} (hc : x.cmd.ok) : Good (n + 1) (stepH h x) := by
  unfold stepH
  by_cases hx : chkI x = 0
  · rw [if_pos hx]; exact good_chg g hx hc
  · rw [if_neg hx]; exact g.more (by omega)
theorem foldl_take {l : List Rc} {k : Nat} (h : k < l.length) : (l.take (k + 1)).foldl stepH Hd.zero = stepH ((l.take k).foldl stepH Hd.zero) l[k] := by
  rw [List.take_add_one, List.getElem?_eq_getElem h, List.foldl_append]
  rfl
theorem hd_zero (G : GH) : HdV G Hd.zero (hdL 0 0 0 (.slice none 0 0) (.slice none 0 0) (.slice none 0 0)) := ⟨_, _, _, rfl, Sl.nil, Sl.nil, Sl.nil⟩
theorem of_s {G : GH} (hT : TabsG G) {l : List Rc} {lv : Value} (hs : Rs G lv l) (hn : l.length ≤ 200) : Con Tryz.prog 64 #[lv] G [] (fun r G' μ' => μ' = [] ∧ ∃ L, r = .agg L.toArray ∧ HdV G' (hardOf l) L) := by
  obtain ⟨A, c, ivf, rfl, hlc, hcm, hsome, hcp, him, hok⟩ := rsOpen hs
  simp only [maxLen] at hcm
  (refine v_enter Tryz.func64 rfl Tryz.ntmps64 rfl ?_; intro B _)
  repeat' (first | apply v_seq | apply v_region | apply v_nil | apply v_block | (apply v_pure; (case hop => first | (apply p_move <;> rfl) | (apply p_assign <;> rfl) | (apply p_lenSlice <;> rfl) | (apply p_build; (case hz => rfl); (case hv => (simp only [List.map_cons, List.map_nil]; repeat (with_reducible exact evs_nil))); (case hb => (apply bldL; repeat (exact bld_nil)))) | fail); (case hd => rfl)) | (apply v_alloc; (case hz => rfl); (case hd => rfl); intro b) | (apply v_box; (case hx => rfl); (case hz => rfl); (case hd => rfl); intro b) | fail)
  rename_i ob
  rename Nat => hb
  refine v_loop [10, 9, 8, 3, 2] (fun us G' μ' => GH.le G G' ∧ ∃ (k : Nat) (L : List Value), k ≤ l.length ∧ us = [Value.int .i64 (k : Nat), .int .i64 (l.length : Nat), .slice A l.length c, .pointer (some ⟨hb, 0, none⟩), .pointer (some ⟨ob, 0, none⟩)] ∧ μ' = [(hb, hdO L), (ob, .cells (hdL 0 0 0 (.slice none 0 0) (.slice none 0 0) (.slice none 0 0)).toArray 27 (0, 0))] ∧ HdV G' ((l.take k).foldl stepH Hd.zero) L ∧ Good k ((l.take k).foldl stepH Hd.zero)) (fun us => l.length - (headI us).toNat) rfl ⟨GH.le_refl _, 0, _, by omega, rfl, rfl, hd_zero G, good_zero⟩ ?_
  rintro us G2 μ' ⟨hle, k, L, hk, rfl, rfl, hh, hg⟩
  by_cases hlt : k < l.length
  · have e1 : ((k : Nat) : Int).toNat = k := by omega
    have hcx := (hcp k hlt).le hle
    have hix := (him k hlt).mono hle
    have hcok := hok _ (List.getElem_mem hlt)
    have hft := foldl_take hlt
    have hgs := good_step hg hcok.1
    rw [← hft] at hgs
    generalize hxe : l[k] = x at *
    generalize ivf k = iv at *
    obtain ⟨Ai, ci, rfl, hic, him2, -⟩ := id hix.openInt
    simp only [maxLen] at him2
    have hx : RcV G2 x (.agg (recL x.kind x.round x.node x.index x.cmd (.slice Ai x.image.length ci)).toArray) := ⟨_, rfl, hix⟩
    have qc := recCheck_s (hT.le hle) x.kind x.round x.node x.index x.cmd hcok.1 Ai x.image.length ci (by omega)
    by_cases hv : chkI x = 0
    · have q := change_s hb hh hg (by omega) hx hv hcok.1
      have es : stepH ((l.take k).foldl stepH Hd.zero) x = chg ((l.take k).foldl stepH Hd.zero) x := by unfold stepH; rw [if_pos hv]
      rw [es] at hft
      rw [show recI x.kind x.round x.node x.index x.cmd x.image.length = 0 from hv] at qc
      repeat' (first | apply v_seq | apply v_region | apply v_nil | apply v_skip | apply v_block | (apply v_pure; (case hop => first | (apply p_move <;> rfl) | (apply p_eqs <;> rfl) | (apply p_lt <;> rfl) | (apply p_indexAddrS; (case hx => rfl); (case hi => rfl); (case h0 => omega); (case h => omega); (case hA => (apply_assumption; omega))) | fail); (case hd => rfl)) | (apply v_condT; (case hc => rfl)) | (apply v_cond; (case hc => rfl); all_goals (intro h; (try simp only [reduceCtorEq, zzz] at h); first | (exfalso; omega) | skip)) | (apply v_read; (case hop => (apply r_loadN; rfl; exact CellsAt.frozen hcx; rfl)); (case hd => rfl)) | (apply v_callJ (hs := qc); (case ha => rfl); (case hd => rfl)) | (apply v_read; (case hop => (apply r_loadNo; (case hx => rfl); (case h => (repeat (exact mhd _))); (case hd => (repeat (first | with_reducible exact dt_nil | apply dt_here))); (case hn => rfl))); (case hd => rfl)) | (apply v_alloc; (case hz => rfl); (case hd => rfl); intro b) | (apply v_store; (case hp => rfl); (case hx => rfl); (case hc => rfl); (case hsz => rfl); (case h1 => rfl); (case hb => (repeat (exact mhd _))); (case hfit => exact nle rfl); (case hov => ((repeat (first | with_reducible exact ov_nil | apply ov_cons)); done)); (case hu => repeat (exact Upd.here _ _))) | fail)
      refine v_call (μ1 := [(hb, _)]) (μ2 := _) rfl q (PickA.perm (by repeat (first | exact PickA.here _ | apply PickA.cons))) rfl ?_
      rintro _ G3 _ hle3 ⟨L', rfl, h'⟩
      rw [← hft] at h'
      repeat' (first | apply v_region | apply v_nil | apply v_blk | (apply v_pure; (case hop => first | (apply p_move <;> rfl) | (apply p_add; (case hx => rfl); (case hy => rfl); (case h => omega)) | fail); (case hd => rfl)) | fail)
      refine v_drop (ν := [(hb, _), (ob, _)]) (by repeat (first | exact List.Sublist.refl _ | apply List.Sublist.cons_cons | apply List.Sublist.cons)) ?_
      refine v_again rfl ⟨GH.le_trans hle hle3, k + 1, L', by omega, rfl, rfl, h', hgs⟩ (by simp [headI]; omega)
    · have es : stepH ((l.take k).foldl stepH Hd.zero) x = (l.take k).foldl stepH Hd.zero := by unfold stepH; rw [if_neg hv]
      rw [es] at hft
      have hv' : ¬ recI x.kind x.round x.node x.index x.cmd x.image.length = 0 := hv
      generalize recI x.kind x.round x.node x.index x.cmd x.image.length = I at *
      repeat' (first | apply v_seq | apply v_region | apply v_nil | apply v_skip | apply v_block | apply v_blk | (apply v_pure; (case hop => first | (apply p_move <;> rfl) | (apply p_eq <;> rfl) | (apply p_lt <;> rfl) | (apply p_add; (case hx => rfl); (case hy => rfl); (case h => omega)) | (apply p_indexAddrS; (case hx => rfl); (case hi => rfl); (case h0 => omega); (case h => omega); (case hA => (apply_assumption; omega))) | fail); (case hd => rfl)) | (apply v_cond; (case hc => rfl); all_goals (intro h; (try simp only [reduceCtorEq, zzz] at h); first | (exfalso; omega) | skip)) | (apply v_read; (case hop => (apply r_loadN; rfl; exact CellsAt.frozen hcx; rfl)); (case hd => rfl)) | (apply v_callJ (hs := qc); (case ha => rfl); (case hd => rfl)) | (apply v_read; (case hop => (apply r_loadNo; (case hx => rfl); (case h => (repeat (exact mhd _))); (case hd => (repeat (first | with_reducible exact dt_nil | apply dt_here))); (case hn => rfl))); (case hd => rfl)) | (apply v_alloc; (case hz => rfl); (case hd => rfl); intro b) | (apply v_store; (case hp => rfl); (case hx => rfl); (case hc => rfl); (case hsz => rfl); (case h1 => rfl); (case hb => (repeat (exact mhd _))); (case hfit => exact nle rfl); (case hov => ((repeat (first | with_reducible exact ov_nil | apply ov_cons)); done)); (case hu => repeat (exact Upd.here _ _))) | fail)
      refine v_drop (ν := [(hb, _), (ob, _)]) (by repeat (first | exact List.Sublist.refl _ | apply List.Sublist.cons)) ?_
      refine v_again rfl ⟨hle, k + 1, L, by omega, rfl, rfl, by rw [hft]; exact hh, hgs⟩ (by simp [headI]; omega)
  · obtain rfl : k = l.length := by omega
    rw [List.take_length] at hh
    obtain ⟨im, av, cv, rfl, hi, ha, hc⟩ := hh
    obtain ⟨A0, c0, rfl, -⟩ := id hi.openInt
    obtain ⟨A1, c1, rfl, -⟩ := id ha.open
    obtain ⟨A2, c2, rfl, -⟩ := id hc.open
    repeat' (first | apply v_seq | apply v_region | apply v_nil | (apply v_exit; (case hp => rfl)) | (apply v_pure; (case hop => first | (apply p_move <;> rfl) | (apply p_lt <;> rfl) | (apply p_fieldAddrB <;> rfl) | (apply p_nilCheck <;> rfl) | fail); (case hd => rfl)) | (apply v_cond; (case hc => rfl); all_goals (intro h; (try simp only [reduceCtorEq, zzz] at h); first | (exfalso; omega) | skip)) | (apply v_read; (case hop => (apply r_loadNo; (case hx => rfl); (case h => (repeat (exact mhd _))); (case hd => (repeat (first | with_reducible exact dt_nil | apply dt_here))); (case hn => rfl))); (case hd => rfl)) | (apply v_store; (case hp => rfl); (case hx => rfl); (case hc => rfl); (case hsz => rfl); (case h1 => rfl); (case hb => (repeat (first | exact mhd _ | apply mtl))); (case hfit => exact nle rfl); (case hov => ((repeat (first | with_reducible exact ov_nil | apply ov_cons)); done)); (case hu => repeat (first | exact Upd.here _ _ | apply Upd.there))) | fail)
    refine v_retM [] (outsM_cell (vs := hdL (l.foldl stepH Hd.zero).pr (l.foldl stepH Hd.zero).pn (l.foldl stepH Hd.zero).base (.slice A0 (l.foldl stepH Hd.zero).image.length c0) (.slice A1 (l.foldl stepH Hd.zero).acc.length c1) (.slice A2 (l.foldl stepH Hd.zero).cho.length c2)) (e := 27) rfl rfl (by repeat (first | exact mhd _ | apply mtl)) rfl) (by repeat (exact List.nil_sublist _)) ?_
    exact ⟨rfl, _, rfl, _, _, _, rfl, hi, ha, hc⟩
abbrev hardO (L : List Value) : Obj := .cells L.toArray 27 (0, 0)
structure Two (k : Nat) (acc cho : List Ent) : Prop where
  ra : RiseL acc
  rc : RiseL cho
  na : acc.length ≤ k
  nc : cho.length ≤ k
  oa : ∀ e ∈ acc, e.ok
  oc : ∀ e ∈ cho, e.ok
theorem neBoolF {σ : Env} {ty t t' : TypeId} {a b : Operand} {x y : Bool} [Ty Tryz.prog t .bool] (h : x = y) (hx : Env.ev σ a = some (.bool x)) (hy : Env.ev σ b = some (.bool y)) : PureOp Tryz.prog (.binOp .neq t a b t') ty σ (.bool false) := by
  subst h
  exact p_neBs hx hy
theorem hCheck_s {G : GH} {H : Hd} {L : List Value} {n : Nat} (hh : HdV G H L) (g : Good n H) : Con Tryz.prog 14 #[.agg L.toArray] G [] (Just (.bool true) G) := by
  obtain ⟨iv, av, cv, rfl, hi, ha, hc⟩ := hh
  have qa := refEntCheck_s ha
  have qc := refEntCheck_s hc
  rw [chk_of (fun x hx => (g.acc x hx).1) g.racc _ 0 rfl] at qa
  rw [chk_of (fun x hx => (g.cho x hx).1) g.rcho _ 0 rfl] at qc
  have qm := refMay_s G H.pr H.pn
  rw [decide_eq_true g.may] at qm
  obtain ⟨A0, c0, rfl, hl0, hm0, -⟩ := hi.openInt
  obtain ⟨A1, c1, rfl, hl1, hm1, hs1, hcp1, hcb1, -, -⟩ := esOpen ha
  obtain ⟨A2, c2, rfl, hl2, hm2, hs2, hcp2, hcb2, -, -⟩ := esOpen hc
  simp only [maxLen] at hm0 hm1 hm2
  have hb := g.base
  have him := g.img
  have hbi : dec (0 < H.base) = dec (0 < (H.image.length : Int)) := by
    rw [dec_eq, dec_eq]
    congr 1
    rw [eq_iff_iff]
    omega
  apply Con.just
  (refine v_enter Tryz.func14 rfl Tryz.ntmps14 rfl ?_; intro B _)
  repeat' (first | (apply v_pure; (case hop => (apply neBoolF (h := hbi); (case hx => rfl); (case hy => rfl))); (case hd => rfl)) | apply v_seq | apply v_region | apply v_nil | apply v_skip | apply v_block | (apply v_take; (case hg => rfl)) | (apply v_pure; (case hop => first | (apply p_move <;> rfl) | (apply p_nes <;> rfl) | (apply p_lt <;> rfl) | (apply p_gt <;> rfl) | (apply p_assign <;> rfl) | (apply p_pickF <;> rfl) | (apply p_not <;> rfl) | (apply p_lenSlice <;> rfl) | (apply p_fieldAddrB <;> rfl) | fail); (case hd => rfl)) | (apply v_condF; (case hc => rfl)) | (apply v_guardB; (case h1 => rfl); (case h2 => rfl); all_goals (intro h; (try simp only [reduceCtorEq, zzz] at h); first | (exfalso; omega) | skip)) | (apply v_callJ (hs := qm); (case ha => rfl); (case hd => rfl)) | (apply v_callJ (hs := qa); (case ha => rfl); (case hd => rfl)) | (apply v_callJ (hs := qc); (case ha => rfl); (case hd => rfl)) | (apply v_read; (case hop => first | (apply r_loadNo; (case hx => rfl); (case h => (repeat (exact mhd _))); (case hd => (repeat (first | with_reducible exact dt_nil | apply dt_here))); (case hn => rfl)) | (apply r_load1; rfl; (apply Cell.own; (case h => (repeat (exact mhd _))); rfl)) | fail); (case hd => rfl)) | (apply v_box; (case hx => rfl); (case hz => rfl); (case hd => rfl); intro b) | fail)
  rename Nat => hb'
  refine v_loop [3, 1] (fun us G' μ' => G' = G ∧ μ' = [(hb', hardO (hdL H.pr H.pn H.base (.slice A0 H.image.length c0) (.slice A1 H.acc.length c1) (.slice A2 H.cho.length c2)))] ∧ ∃ k, k ≤ H.acc.length ∧ us = [Value.int .i64 (k : Nat), .pointer (some ⟨hb', 0, none⟩)]) (fun us => H.acc.length - (headI us).toNat) rfl ⟨rfl, rfl, 0, by omega, rfl⟩ ?_
  rintro us G' μ' ⟨rfl, rfl, k, hk, rfl⟩
  by_cases hlt : k < H.acc.length
  · have e1 : ((k : Nat) : Int).toNat = k := by omega
    have hg := g.acc _ (List.getElem_mem hlt)
    have kc0 : GH.cell? G' (((adr A1).add (k * 10)).add 0) = some (.int .i64 (H.acc[k]).index) := (hcp1 k hlt).cell (j := 0) rfl
    have kc1 := hcb1 k hlt
    generalize hxe : H.acc[k] = e at *
    obtain ⟨-, -, hg1, hg2, hg3⟩ := hg
    have ql := refLess_s G' H.pr H.pn e.round e.node
    rw [decide_eq_false hg3] at ql
    have hA := hs1 (by omega)
    repeat' (first | apply v_seq | apply v_region | apply v_nil | apply v_skip | apply v_block | (apply v_pure; (case hop => first | (apply p_move <;> rfl) | (apply p_lt <;> rfl) | (apply p_lenSlice <;> rfl) | (apply p_fieldAddrB <;> rfl) | (apply p_fieldAddr <;> rfl) | (apply p_indexAddrS; (case hx => rfl); (case hi => rfl); (case h0 => omega); (case h => omega); (case hA => assumption)) | fail); (case hd => rfl)) | (apply v_cond; (case hc => rfl); all_goals (intro h; (try simp only [reduceCtorEq, zzz] at h); first | (exfalso; omega) | skip)) | (apply v_read; (case hop => (apply r_loadN; rfl; exact CellsAt.frozen kc1; rfl)); (case hd => rfl)) | (apply v_read; (case hop => (apply r_load1; rfl; (apply Cell.own; (case h => (repeat (exact mhd _))); rfl))); (case hd => rfl)) | (apply v_alloc; (case hz => rfl); (case hd => rfl); intro b) | (apply v_store; (case hp => rfl); (case hx => rfl); (case hc => rfl); (case hsz => rfl); (case h1 => rfl); (case hb => (repeat (exact mhd _))); (case hfit => exact nle rfl); (case hov => ((repeat (first | with_reducible exact ov_nil | apply ov_cons)); done)); (case hu => repeat (exact Upd.here _ _))) | fail)
    refine d_start _ (by kernel_rfl) (by kernel_rfl) (by kernel_rfl) (fun _ he => he) ?_
    all_goals (apply dtk 0; (case hi => rfl); (case hop => (apply prd; apply p_fieldAddrB <;> rfl)); (case hq => kernel_rfl))
    all_goals (apply dtk 1; (case hi => rfl); (case hop => (apply r_load1; rfl; (apply Cell.own; (case h => (repeat (first | exact mhd _ | apply mtl))); rfl))); (case hq => kernel_rfl))
    all_goals (apply dtk 2; (case hi => rfl); (case hop => (apply prd; apply p_move <;> rfl)); (case hq => kernel_rfl))
    all_goals (apply dtk 3; (case hi => rfl); (case hop => (apply prd; apply p_indexAddrS; (case hx => rfl); (case hi => rfl); (case h0 => omega); (case h => omega); (case hA => assumption))); (case hq => kernel_rfl))
    all_goals (apply dtk 4; (case hi => rfl); (case hop => (apply prd; apply p_fieldAddr <;> rfl)); (case hq => kernel_rfl))
    all_goals (apply dtk 5; (case hi => rfl); (case hop => ((apply r_load1; rfl; exact Cell.frozen kc0))); (case hq => kernel_rfl))
    all_goals (apply dtk 6; (case hi => rfl); (case hop => (apply prd; apply p_fieldAddrB <;> rfl)); (case hq => kernel_rfl))
    all_goals (apply dtk 7; (case hi => rfl); (case hop => (apply r_load1; rfl; (apply Cell.own; (case h => (repeat (first | exact mhd _ | apply mtl))); rfl))); (case hq => kernel_rfl))
    all_goals (apply dtk 8; (case hi => rfl); (case hop => (apply prd; apply p_le <;> rfl)); (case hq => kernel_rfl))
    all_goals (apply dtk 9; (case hi => rfl); (case hop => (apply prd; apply p_move <;> rfl)); (case hq => kernel_rfl))
    all_goals (try (apply d_guardB 10; (case hi => rfl); (case hgd => rfl); (case h1 => rfl); (case h2 => rfl); all_goals (intro h; (try simp only [reduceCtorEq, zzz] at h); first | (exfalso; omega) | skip)))
    all_goals (apply dtg 10; (case hi => rfl); (case hg => rfl); (case hop => (apply prd; apply p_fieldAddrB <;> rfl)); (case hq => kernel_rfl))
    all_goals (try (apply d_guardB 11; (case hi => rfl); (case hgd => rfl); (case h1 => rfl); (case h2 => rfl); all_goals (intro h; (try simp only [reduceCtorEq, zzz] at h))))
    all_goals (apply dtg 11; (case hi => rfl); (case hg => rfl); (case hop => (apply r_load1; rfl; (apply Cell.own; (case h => (repeat (exact mhd _))); rfl))); (case hq => kernel_rfl))
    all_goals (try (apply d_guardB 12; (case hi => rfl); (case hgd => rfl); (case h1 => rfl); (case h2 => rfl); all_goals (intro h; (try simp only [reduceCtorEq, zzz] at h))))
    all_goals (apply dtg 12; (case hi => rfl); (case hg => rfl); (case hop => (apply prd; apply p_eq <;> rfl)); (case hq => kernel_rfl))
    all_goals (apply dtk 13; (case hi => rfl); (case hop => (apply prd; apply p_pickF <;> rfl)); (case hq => kernel_rfl))
    all_goals (apply dtk 14; (case hi => rfl); (case hop => (apply prd; apply p_move <;> rfl)); (case hq => kernel_rfl))
    all_goals (try (apply d_guardB 15; (case hi => rfl); (case hgd => rfl); (case h1 => rfl); (case h2 => rfl); all_goals (intro h; (try simp only [reduceCtorEq, zzz] at h); first | (exfalso; omega) | skip)))
    all_goals (apply dtg 15; (case hi => rfl); (case hg => rfl); (case hop => (apply prd; apply p_fieldAddrB <;> rfl)); (case hq => kernel_rfl))
    all_goals (try (apply d_guardB 16; (case hi => rfl); (case hgd => rfl); (case h1 => rfl); (case h2 => rfl); all_goals (intro h; (try simp only [reduceCtorEq, zzz] at h))))
    all_goals (apply dtg 16; (case hi => rfl); (case hg => rfl); (case hop => (apply r_loadNo; (case hx => rfl); (case h => (repeat (first | exact mhd _ | apply mtl))); (case hd => (repeat (first | with_reducible exact dt_nil | apply dt_here))); (case hn => rfl))); (case hq => kernel_rfl))
    all_goals (try (apply d_guardB 17; (case hi => rfl); (case hgd => rfl); (case h1 => rfl); (case h2 => rfl); all_goals (intro h; (try simp only [reduceCtorEq, zzz] at h))))
    all_goals (apply dtg 17; (case hi => rfl); (case hg => rfl); (case hop => (apply r_loadNo; (case hx => rfl); (case h => (repeat (exact mhd _))); (case hd => (repeat (first | with_reducible exact dt_nil | apply dt_here))); (case hn => rfl))); (case hq => kernel_rfl))
    all_goals (try (apply d_guardB 18; (case hi => rfl); (case hgd => rfl); (case h1 => rfl); (case h2 => rfl); all_goals (intro h; (try simp only [reduceCtorEq, zzz] at h))))
    all_goals (apply d_callJG 18 (hs := ql); (case hi => rfl); (case hg => rfl); (case hr => kernel_rfl); (case ha => rfl); (case hd => rfl))
    all_goals (apply dtk 19; (case hi => rfl); (case hop => (apply prd; apply p_pickF <;> rfl)); (case hq => kernel_rfl))
    all_goals (apply d_done; (case hr => kernel_rfl))
    repeat' (first | apply v_region | apply v_nil | apply v_skip | apply v_blk | (apply v_pure; (case hop => first | (apply p_move <;> rfl) | (apply p_assign <;> rfl) | (apply p_add; (case hx => rfl); (case hy => rfl); (case h => omega)) | fail); (case hd => rfl)) | (apply v_condF; (case hc => rfl)) | fail)
    refine v_drop (ν := [(hb', _)]) (by repeat (first | exact List.Sublist.refl _ | apply List.Sublist.cons)) ?_
    refine v_again rfl ⟨rfl, rfl, k + 1, by omega, rfl⟩ (by simp [headI]; omega)
  repeat' (first | apply v_seq | apply v_region | apply v_nil | apply v_block | (apply v_exit; (case hp => rfl)) | (apply v_pure; (case hop => first | (apply p_move <;> rfl) | (apply p_lt <;> rfl) | (apply p_assign <;> rfl) | (apply p_lenSlice <;> rfl) | (apply p_fieldAddrB <;> rfl) | fail); (case hd => rfl)) | (apply v_cond; (case hc => rfl); all_goals (intro h; (try simp only [reduceCtorEq, zzz] at h); first | (exfalso; omega) | skip)) | (apply v_read; (case hop => (apply r_load1; rfl; (apply Cell.own; (case h => (repeat (exact mhd _))); rfl))); (case hd => rfl)) | fail)
  refine v_loop [5, 1] (fun us G2 μ' => G2 = G' ∧ μ' = [(hb', hardO (hdL H.pr H.pn H.base (.slice A0 H.image.length c0) (.slice A1 H.acc.length c1) (.slice A2 H.cho.length c2)))] ∧ ∃ k, k ≤ H.cho.length ∧ us = [Value.int .i64 (k : Nat), .pointer (some ⟨hb', 0, none⟩)]) (fun us => H.cho.length - (headI us).toNat) rfl ⟨rfl, rfl, 0, by omega, rfl⟩ ?_
  rintro us G2 μ' ⟨rfl, rfl, k, hk, rfl⟩
  by_cases hlt : k < H.cho.length
  · have e1 : ((k : Nat) : Int).toNat = k := by omega
    have hg := g.cho _ (List.getElem_mem hlt)
    have kc0 : GH.cell? G2 (((adr A2).add (k * 10)).add 0) = some (.int .i64 (H.cho[k]).index) := (hcp2 k hlt).cell (j := 0) rfl
    have kc1 : GH.cell? G2 ((((adr A2).add (k * 10)).add 1).add 0) = some (.int .i64 (H.cho[k]).round) := (hcb2 k hlt).cell (j := 0) rfl
    generalize hxe : H.cho[k] = e at *
    obtain ⟨-, -, hg1, hg2, hg3⟩ := hg
    have hA := hs2 (by omega)
    repeat' (first | apply v_seq | apply v_region | apply v_nil | apply v_skip | apply v_block | (apply v_pure; (case hop => first | (apply p_move <;> rfl) | (apply p_lt <;> rfl) | (apply p_lenSlice <;> rfl) | (apply p_fieldAddrB <;> rfl) | fail); (case hd => rfl)) | (apply v_cond; (case hc => rfl); all_goals (intro h; (try simp only [reduceCtorEq, zzz] at h); first | (exfalso; omega) | skip)) | (apply v_read; (case hop => (apply r_load1; rfl; (apply Cell.own; (case h => (repeat (exact mhd _))); rfl))); (case hd => rfl)) | fail)
    refine d_start _ (by kernel_rfl) (by kernel_rfl) (by kernel_rfl) (fun _ he => he) ?_
    all_goals (apply dtk 0; (case hi => rfl); (case hop => (apply prd; apply p_fieldAddrB <;> rfl)); (case hq => kernel_rfl))
    all_goals (apply dtk 1; (case hi => rfl); (case hop => (apply r_load1; rfl; (apply Cell.own; (case h => (repeat (exact mhd _))); rfl))); (case hq => kernel_rfl))
    all_goals (apply dtk 2; (case hi => rfl); (case hop => (apply prd; apply p_move <;> rfl)); (case hq => kernel_rfl))
    all_goals (apply dtk 3; (case hi => rfl); (case hop => (apply prd; apply p_indexAddrS; (case hx => rfl); (case hi => rfl); (case h0 => omega); (case h => omega); (case hA => assumption))); (case hq => kernel_rfl))
    all_goals (apply dtk 4; (case hi => rfl); (case hop => (apply prd; apply p_fieldAddr <;> rfl)); (case hq => kernel_rfl))
    all_goals (apply dtk 5; (case hi => rfl); (case hop => ((apply r_load1; rfl; exact Cell.frozen kc0))); (case hq => kernel_rfl))
    all_goals (apply dtk 6; (case hi => rfl); (case hop => (apply prd; apply p_fieldAddrB <;> rfl)); (case hq => kernel_rfl))
    all_goals (apply dtk 7; (case hi => rfl); (case hop => (apply r_load1; rfl; (apply Cell.own; (case h => (repeat (exact mhd _))); rfl))); (case hq => kernel_rfl))
    all_goals (apply dtk 8; (case hi => rfl); (case hop => (apply prd; apply p_le <;> rfl)); (case hq => kernel_rfl))
    all_goals (apply dtk 9; (case hi => rfl); (case hop => (apply prd; apply p_move <;> rfl)); (case hq => kernel_rfl))
    all_goals (try (apply d_guardB 10; (case hi => rfl); (case hgd => rfl); (case h1 => rfl); (case h2 => rfl); all_goals (intro h; (try simp only [reduceCtorEq, zzz] at h); first | (exfalso; omega) | skip)))
    all_goals (apply dtg 10; (case hi => rfl); (case hg => rfl); (case hop => (apply prd; apply p_fieldAddrB <;> rfl)); (case hq => kernel_rfl))
    all_goals (try (apply d_guardB 11; (case hi => rfl); (case hgd => rfl); (case h1 => rfl); (case h2 => rfl); all_goals (intro h; (try simp only [reduceCtorEq, zzz] at h))))
    all_goals (apply dtg 11; (case hi => rfl); (case hg => rfl); (case hop => (apply r_load1; rfl; (apply Cell.own; (case h => (repeat (exact mhd _))); rfl))); (case hq => kernel_rfl))
    all_goals (try (apply d_guardB 12; (case hi => rfl); (case hgd => rfl); (case h1 => rfl); (case h2 => rfl); all_goals (intro h; (try simp only [reduceCtorEq, zzz] at h))))
    all_goals (apply dtg 12; (case hi => rfl); (case hg => rfl); (case hop => (apply prd; apply p_move <;> rfl)); (case hq => kernel_rfl))
    all_goals (try (apply d_guardB 13; (case hi => rfl); (case hgd => rfl); (case h1 => rfl); (case h2 => rfl); all_goals (intro h; (try simp only [reduceCtorEq, zzz] at h))))
    all_goals (apply dtg 13; (case hi => rfl); (case hg => rfl); (case hop => (apply prd; apply p_indexAddrS; (case hx => rfl); (case hi => rfl); (case h0 => omega); (case h => omega); (case hA => assumption))); (case hq => kernel_rfl))
    all_goals (try (apply d_guardB 14; (case hi => rfl); (case hgd => rfl); (case h1 => rfl); (case h2 => rfl); all_goals (intro h; (try simp only [reduceCtorEq, zzz] at h))))
    all_goals (apply dtg 14; (case hi => rfl); (case hg => rfl); (case hop => (apply prd; apply p_fieldAddr <;> rfl)); (case hq => kernel_rfl))
    all_goals (try (apply d_guardB 15; (case hi => rfl); (case hgd => rfl); (case h1 => rfl); (case h2 => rfl); all_goals (intro h; (try simp only [reduceCtorEq, zzz] at h))))
    all_goals (apply dtg 15; (case hi => rfl); (case hg => rfl); (case hop => (apply prd; apply p_fieldAddrB <;> rfl)); (case hq => kernel_rfl))
    all_goals (try (apply d_guardB 16; (case hi => rfl); (case hgd => rfl); (case h1 => rfl); (case h2 => rfl); all_goals (intro h; (try simp only [reduceCtorEq, zzz] at h))))
    all_goals (apply dtg 16; (case hi => rfl); (case hg => rfl); (case hop => ((apply r_load1; rfl; exact Cell.frozen kc1))); (case hq => kernel_rfl))
    all_goals (try (apply d_guardB 17; (case hi => rfl); (case hgd => rfl); (case h1 => rfl); (case h2 => rfl); all_goals (intro h; (try simp only [reduceCtorEq, zzz] at h))))
    all_goals (apply dtg 17; (case hi => rfl); (case hg => rfl); (case hop => (apply prd; apply p_ne <;> rfl)); (case hq => kernel_rfl))
    all_goals (apply dtk 18; (case hi => rfl); (case hop => (apply prd; apply p_pickF <;> rfl)); (case hq => kernel_rfl))
    all_goals (apply d_done; (case hr => kernel_rfl))
    repeat' (first | apply v_region | apply v_nil | apply v_skip | apply v_blk | (apply v_pure; (case hop => first | (apply p_move <;> rfl) | (apply p_assign <;> rfl) | (apply p_add; (case hx => rfl); (case hy => rfl); (case h => omega)) | fail); (case hd => rfl)) | (apply v_cond; (case hc => rfl); all_goals (intro h; (try simp only [reduceCtorEq, zzz] at h); first | (exfalso; omega) | skip)) | fail)
    refine v_again rfl ⟨rfl, rfl, k + 1, by omega, rfl⟩ (by simp [headI]; omega)
  · repeat' (first | apply v_seq | apply v_region | apply v_nil | (apply v_exit; (case hp => rfl)) | (apply v_pure; (case hop => first | (apply p_move <;> rfl) | (apply p_lt <;> rfl) | (apply p_assign <;> rfl) | (apply p_lenSlice <;> rfl) | (apply p_fieldAddrB <;> rfl) | fail); (case hd => rfl)) | (apply v_cond; (case hc => rfl); all_goals (intro h; (try simp only [reduceCtorEq, zzz] at h); first | (exfalso; omega) | skip)) | (apply v_read; (case hop => (apply r_load1; rfl; (apply Cell.own; (case h => (repeat (exact mhd _))); rfl))); (case hd => rfl)) | fail)
    refine v_ret [] (outsA1 rfl rfl) (by repeat (exact List.nil_sublist _)) ?_
    exact ⟨rfl, rfl⟩
theorem flat_get {sz : Nat} : ∀ {css : List (List Value)} {j : Nat} {u : Value}, (∀ c ∈ css, c.length = sz) → css.flatten[j]? = some u → ∃ i r cs, j = i * sz + r ∧ css[i]? = some cs ∧ cs[r]? = some u
  | [], j, u, _, h => by simp at h
  | c :: css, j, u, hs, h => by
    rw [List.flatten_cons] at h
    have hc := hs c (by simp)
    by_cases hj : j < c.length
    · rw [List.getElem?_append_left hj] at h
      exact ⟨0, j, c, by rw [Nat.zero_mul, Nat.zero_add], rfl, h⟩
    · rw [List.getElem?_append_right (by omega)] at h
      obtain ⟨i, r, cs, h1, h2, h3⟩ := flat_get (fun x hx => hs x (List.mem_cons_of_mem _ hx)) h
      refine ⟨i + 1, r, cs, ?_, h2, h3⟩
      rw [Nat.add_mul, Nat.one_mul]
      omega
theorem flat_len {sz : Nat} : ∀ {css : List (List Value)}, (∀ c ∈ css, c.length = sz) → css.flatten.length = css.length * sz
  | [], _ => by simp
  | c :: css, hs => by
    rw [List.flatten_cons, List.length_append, hs c (by simp), flat_len fun x hx => hs x (List.mem_cons_of_mem _ hx), List.length_cons, Nat.add_mul]
    omega
theorem rec_one {G : GH} {x : Rc} {cs : List Value} (h : RcR G x cs) : cs.length = 12 ∧ cs.all Value.oneCell' = true := by
  obtain ⟨iv, rfl, -, -, hi⟩ := h
  obtain ⟨A, c, rfl, -⟩ := hi.openInt
  exact ⟨rfl, rfl⟩
theorem rsFlat {G : GH} {v : Value} {l : List Rc} (hs : Rs G v l) : ∃ css : List (List Value), css.length = l.length ∧ (∀ (i : Nat) x cs, l[i]? = some x → css[i]? = some cs → RcR G x cs) ∧ (∀ μ, Go.Vx.Src G μ v l.length 12 css.flatten) ∧ css.flatten.all Value.oneCell' = true := by
  obtain ⟨A, c, rfl, h1, h2, h3, h4⟩ := hs.open
  have key : ∀ i, ∃ cs : List Value, ∀ x, l[i]? = some x → cs.length = 12 ∧ RcR G x cs ∧ CellsG G ((adr A).add (i * 12)) cs := fun i => by
    cases hx : l[i]? with
    | none => exact ⟨[], fun x h => by cases h⟩
    | some y =>
      obtain ⟨cs, k1, k2, k3⟩ := h4 i y hx
      exact ⟨cs, fun x h => by cases h; exact ⟨k1, k2, k3⟩⟩
  let f := fun i => Classical.choose (key i)
  have hf : ∀ i x, l[i]? = some x → (f i).length = 12 ∧ RcR G x (f i) ∧ CellsG G ((adr A).add (i * 12)) (f i) := fun i => Classical.choose_spec (key i)
  have hget : ∀ i cs, ((List.range l.length).map f)[i]? = some cs → ∃ x, l[i]? = some x ∧ cs = f i := fun i cs hc => by
    rw [List.getElem?_map] at hc
    obtain ⟨j, hj, rfl⟩ := Option.map_eq_some_iff.1 hc
    obtain ⟨hj1, hj2⟩ := List.getElem?_eq_some_iff.1 hj
    rw [List.length_range] at hj1
    rw [List.getElem_range] at hj2
    subst hj2
    exact ⟨_, List.getElem?_eq_getElem hj1, rfl⟩
  have hlen : ∀ cs ∈ (List.range l.length).map f, cs.length = 12 := fun cs hc => by
    obtain ⟨i, hi, rfl⟩ := List.getElem_of_mem hc
    obtain ⟨x, hx, he⟩ := hget i _ (List.getElem?_eq_getElem hi)
    rw [he]
    exact (hf i x hx).1
  refine ⟨(List.range l.length).map f, by simp, fun i x cs hx hc => ?_, fun μ => ?_, ?_⟩
  · obtain ⟨y, hy, rfl⟩ := hget i cs hc
    exact (hf i x hx).2.1
  · refine ⟨by rw [flat_len hlen]; simp, A, c, rfl, fun h0 => ?_⟩
    have hA := h3 h0
    obtain ⟨a, rfl⟩ := Option.isSome_iff_exists.1 hA
    refine ⟨a, rfl, CellsAt.frozen fun j u hu => ?_⟩
    obtain ⟨i, r, cs, rfl, hi, hr⟩ := flat_get hlen hu
    obtain ⟨y, hy, rfl⟩ := hget i cs hi
    have := (hf i y hy).2.2 r u hr
    rw [add_add] at this
    exact this
  · rw [List.all_eq_true]
    intro u hu
    obtain ⟨cs, hcs, hu⟩ := List.mem_flatten.1 hu
    obtain ⟨i, hi, rfl⟩ := List.getElem_of_mem hcs
    obtain ⟨x, hx, he⟩ := hget i _ (List.getElem?_eq_getElem hi)
    rw [he] at hu
    exact List.all_eq_true.1 (rec_one (hf i x hx).2.1).2 u hu
theorem zeroCm_okV : zeroCm.ok := ⟨by decide, by decide, by decide, by decide, by decide, by decide, by decide⟩
theorem chk_one {l : List Ent} (h : chkK l 0 = 0) : ∀ e ∈ l, oneI e = 0 := fun e he => by
  obtain ⟨i, hi, rfl⟩ := List.getElem_of_mem he
  exact chk_all (l.length - 0) 0 rfl h i hi (by omega)
def CheckP (H : Hd) : Prop := mayP H.pr H.pn ∧ (0 ≤ H.base ∧ H.base ≤ 4294967296) ∧ H.image.length ≤ 32768 ∧ (0 < H.base ↔ 0 < H.image.length) ∧ chkK H.acc 0 = 0 ∧ chkK H.cho 0 = 0 ∧ (∀ e ∈ H.acc, H.base < e.index ∧ e.round ≠ 0 ∧ ¬ lessP H.pr H.pn e.round e.node) ∧ (∀ e ∈ H.cho, H.base < e.index ∧ e.round = 0)
noncomputable instance (H : Hd) : Decidable (CheckP H) := Classical.propDecidable _
theorem one_parts {e : Ent} (h : oneI e = 0) : 1 ≤ e.index ∧ e.index ≤ 4294967296 ∧ mayP e.round e.node ∧ cmdI e.cmd = 0 := by
  unfold oneI at h
  split at h
  · omega
  · rename_i hc
    have h1 : ¬ e.index < 1 := fun hh => hc (.inl hh)
    have h2 : ¬ 4294967296 < e.index := fun hh => hc (.inr (.inl hh))
    have h3 : mayP e.round e.node := Decidable.not_not.1 fun hh => hc (.inr (.inr hh))
    exact ⟨by omega, by omega, h3, h⟩
theorem good_check {H : Hd} (h : CheckP H) {n : Nat} (ha : H.acc.length ≤ n) (hc : H.cho.length ≤ n) (oa : ∀ e ∈ H.acc, e.ok) (oc : ∀ e ∈ H.cho, e.ok) : Good n H := by
  obtain ⟨h1, h2, h3, h4, h5, h6, h7, h8⟩ := h
  refine ⟨h1, h2, ⟨h3, h4⟩, chk_rise h5, chk_rise h6, ha, hc, fun e he => ?_, fun e he => ?_⟩
  · obtain ⟨a1, a2, a3⟩ := h7 e he
    exact ⟨chk_one h5 e he, oa e he, a1, a2, a3⟩
  · obtain ⟨a1, a2⟩ := h8 e he
    have hm := (one_parts (chk_one h6 e he)).2.2.1
    refine ⟨chk_one h6 e he, oc e he, a1, a2, ?_⟩
    unfold mayP at hm
    omega
def imgRec (b : Int) (im : List Int) : Rc := ⟨4, 0, 0, b, zeroCm, im⟩
theorem img_ok {b : Int} {im : List Int} (hb : 1 ≤ b ∧ b ≤ 4294967296) (hl : 0 < im.length ∧ im.length ≤ 32768) : chkI (imgRec b im) = 0 := by
  show recI 4 0 0 b zeroCm im.length = 0
  unfold recI ranP
  rw [if_neg (by omega), if_neg (fun hh => hh ⟨fun h => by omega, fun _ => hb⟩), if_neg (by omega), if_neg (by omega), if_neg]
  unfold othP
  rintro (⟨_, h⟩ | ⟨h, _⟩ | ⟨_, h⟩ | h)
  · exact h ⟨rfl, rfl⟩
  · omega
  · exact h rfl
  · exact h ⟨fun _ => hl.1, fun _ => rfl⟩
theorem idx_s {G : GH} {l : List Ent} {sv : Value} (hs : Es G sv l) (f : FuncId) [Callable Tryz.prog f] (cap : List Value) (μ1 : OH) (p : Ent → Bool) (hf : ∀ e ∈ l, Con Tryz.prog f ([] ++ [Value.agg e.cells.toArray] ++ cap).toArray G μ1 (Keeps (.bool (p e)) G μ1)) :
    Con Tryz.prog 128 #[sv, .func (.func f) #[] cap.toArray] G μ1 (fun r G' μ' => G' = G ∧ μ' = μ1 ∧ ∃ z, r = .int .i64 z ∧ (0 ≤ z ↔ l.any p = true) ∧ -1 ≤ z) := by
  obtain ⟨A, c, rfl, hlc, hcm, hsome, hcp, -, -, hok⟩ := esOpen hs
  simp only [maxLen] at hcm
  (refine v_enter Tryz.func128 rfl Tryz.ntmps128 rfl ?_; intro B _)
  repeat' (first | apply v_seq | apply v_region | apply v_nil | apply v_block | (apply v_pure; (case hop => first | (apply p_move <;> rfl) | (apply p_assign <;> rfl) | (apply p_lenSlice <;> rfl) | fail); (case hd => rfl)) | fail)
  refine v_loop [8, 7, 0, 1] (fun us G' μ' => G' = G ∧ μ' = μ1 ∧ ∃ k, k ≤ l.length ∧ us = [Value.int .i64 (k : Nat), .int .i64 (l.length : Nat), .slice A l.length c, .func (.func f) #[] cap.toArray] ∧ ∀ i (h : i < l.length), i < k → p l[i] = false) (fun us => l.length - (headI us).toNat) rfl ⟨rfl, rfl, 0, by omega, rfl, by omega⟩ ?_
  rintro us G' μ' ⟨rfl, rfl, k, hk, rfl, hno⟩
  have e1 : ((k : Nat) : Int).toNat = k := by omega
  by_cases hlt : k < l.length
  · have kc := hcp k hlt
    have hfk := hf _ (List.getElem_mem hlt)
    cases hpe : p l[k]
    · rw [hpe] at hfk
      repeat' (first | apply v_seq | apply v_region | apply v_nil | apply v_skip | apply v_block | apply v_blk | (apply v_pure; (case hop => first | (apply p_move <;> rfl) | (apply p_lt <;> rfl) | (apply p_assign <;> rfl) | (apply p_add; (case hx => rfl); (case hy => rfl); (case h => omega)) | (apply p_indexAddrS; (case hx => rfl); (case hi => rfl); (case h0 => omega); (case h => omega); (case hA => (apply_assumption; omega))) | fail); (case hd => rfl)) | (apply v_condF; (case hc => rfl)) | (apply v_cond; (case hc => rfl); all_goals (intro h; (try simp only [reduceCtorEq, zzz] at h); first | (exfalso; omega) | skip)) | (apply v_read; (case hop => (apply r_loadN; rfl; exact CellsAt.frozen kc; rfl)); (case hd => rfl)) | (apply v_callCK (first := []) (captured := cap) (hs := hfk) (hx := rfl) (ha := rfl) (hp := (by simp : List.Perm _ (_ ++ [])));  (case hd => rfl)) | fail)
      refine v_again rfl ⟨rfl, rfl, k + 1, by omega, rfl, fun i h hi => ?_⟩ (by simp [headI]; omega)
      by_cases hik : i = k
      · subst hik; exact hpe
      · exact hno i h (by omega)
    · rw [hpe] at hfk
      repeat' (first | apply v_seq | apply v_region | apply v_nil | apply v_skip | apply v_block | (apply v_pure; (case hop => first | (apply p_move <;> rfl) | (apply p_lt <;> rfl) | (apply p_assign <;> rfl) | (apply p_indexAddrS; (case hx => rfl); (case hi => rfl); (case h0 => omega); (case h => omega); (case hA => (apply_assumption; omega))) | fail); (case hd => rfl)) | (apply v_condT; (case hc => rfl)) | (apply v_cond; (case hc => rfl); all_goals (intro h; (try simp only [reduceCtorEq, zzz] at h); first | (exfalso; omega) | skip)) | (apply v_read; (case hop => (apply r_loadN; rfl; exact CellsAt.frozen kc; rfl)); (case hd => rfl)) | (apply v_callCK (first := []) (captured := cap) (hs := hfk) (hx := rfl) (ha := rfl) (hp := (by simp : List.Perm _ (_ ++ [])));  (case hd => rfl)) | fail)
      refine v_ret μ' (outsA1 rfl rfl) (List.Sublist.refl _) ?_
      refine ⟨rfl, rfl, _, rfl, ⟨fun _ => ?_, fun _ => by omega⟩, by omega⟩
      rw [List.any_eq_true]
      exact ⟨_, List.getElem_mem hlt, hpe⟩
  · repeat' (first | apply v_seq | apply v_region | apply v_nil | (apply v_exit; (case hp => rfl)) | (apply v_pure; (case hop => first | (apply p_lt <;> rfl) | (apply p_assign <;> rfl) | fail); (case hd => rfl)) | (apply v_cond; (case hc => rfl); all_goals (intro h; (try simp only [reduceCtorEq, zzz] at h); first | (exfalso; omega) | skip)) | fail)
    refine v_ret μ' (outsA1 rfl rfl) (List.Sublist.refl _) ?_
    refine ⟨rfl, rfl, _, rfl, ⟨fun h => by omega, fun h => ?_⟩, by omega⟩
    rw [List.any_eq_true] at h
    obtain ⟨e, he, h⟩ := h
    obtain ⟨i, hi, rfl⟩ := List.getElem_of_mem he
    rw [hno i hi (by omega)] at h
    cases h
theorem has_s {G : GH} {l : List Ent} {sv : Value} (hs : Es G sv l) (f : FuncId) [Callable Tryz.prog f] (cap : List Value) (μ1 : OH) (p : Ent → Bool) (hf : ∀ e ∈ l, Con Tryz.prog f ([] ++ [Value.agg e.cells.toArray] ++ cap).toArray G μ1 (Keeps (.bool (p e)) G μ1)) :
    Con Tryz.prog 85 #[sv, .func (.func f) #[] cap.toArray] G μ1 (Keeps (.bool (l.any p)) G μ1) := by
  have q := idx_s hs f cap μ1 p hf
  apply Con.keeps
  (refine v_enter Tryz.func85 rfl Tryz.ntmps85 rfl ?_; intro B _)
  repeat' (first | apply v_seq | apply v_region | apply v_nil | (apply v_pure; (case hop => first | (apply p_move <;> rfl) | (apply p_assign <;> rfl)); (case hd => rfl)) | fail)
  refine v_call (μ1 := μ1) (μ2 := []) rfl q (by simp) rfl ?_
  rintro _ G1 μ1 - ⟨rfl, rfl, z, rfl, hz, -⟩
  repeat' (first | apply v_nil | (apply v_pure; (case hop => first | (apply p_ge <;> rfl) | (apply p_assign <;> rfl)); (case hd => rfl)) | fail)
  refine v_ret μ1 (outsA1 rfl rfl) (List.sublist_append_left _ _) ?_
  refine ⟨?_, rfl⟩
  rw [dec_eq]
  congr 1
  rw [Bool.eq_iff_iff, decide_eq_true_iff, hz]
def accBad (H : Hd) (e : Ent) : Bool := decide (e.index ≤ H.base ∨ (e.round = 0 ∧ e.node = 0) ∨ lessP H.pr H.pn e.round e.node)
def choBad (H : Hd) (e : Ent) : Bool := decide (e.index ≤ H.base ∨ ¬ (e.round = 0 ∧ e.node = 0))
theorem acc1_s (G : GH) (hb : Nat) (H : Hd) (iv av cv : Value) (x : Ent) : Con Tryz.prog 82 #[.agg x.cells.toArray, .pointer (some ⟨hb, 0, none⟩)] G [(hb, hardO (hdL H.pr H.pn H.base iv av cv))] (Keeps (.bool (accBad H x)) G [(hb, hardO (hdL H.pr H.pn H.base iv av cv))]) := by
  have ql := less_s G H.pr H.pn x.round x.node
  unfold accBad
  generalize hlb : decide (lessP H.pr H.pn x.round x.node) = lb at *
  apply Con.keeps
  (refine v_enter Tryz.func82 rfl Tryz.ntmps82 rfl ?_; intro B _)
  repeat' (first | (apply v_pure; (case hop => (apply eqBal; (case hx => rfl); (case hy => rfl))); (case hd => rfl)) | apply v_seq | apply v_region | apply v_nil | (apply v_take; (case hg => rfl)) | (apply v_pass; (case hg => rfl); (case hn => rfl); (case hd => rfl)) | (apply v_pure; (case hop => first | (apply p_move <;> rfl) | (apply p_le <;> rfl) | (apply p_assign <;> rfl) | (apply p_pickT <;> rfl) | (apply p_pickF <;> rfl) | (apply p_fieldAddrB <;> rfl) | (apply p_build; (case hz => rfl); (case hv => (simp only [List.map_cons, List.map_nil]; repeat (with_reducible exact evs_nil))); (case hb => (apply bldL; repeat (exact bld_nil)))) | fail); (case hd => rfl)) | (apply v_guardB; (case h1 => rfl); (case h2 => rfl); all_goals (intro h; (try simp only [reduceCtorEq, zzz] at h))) | (apply v_box (zs := x.cells); (case hx => rfl); (case hz => rfl); (case hd => rfl); intro b) | (apply v_callJ (hs := ql); (case ha => rfl); (case hd => rfl)) | (apply v_read; (case hop => first | (apply r_loadNo; (case hx => rfl); (case h => (repeat (first | exact mhd _ | apply mtl))); (case hd => (repeat (first | with_reducible exact dt_nil | apply dt_here))); (case hn => rfl)) | (apply r_load1; rfl; (apply Cell.own; (case h => (repeat (first | exact mhd _ | apply mtl))); rfl)) | fail); (case hd => rfl)) | fail)
  all_goals
    (refine v_ret [(hb, _)] (outsA1 rfl rfl) (by repeat (first | exact List.Sublist.refl _ | apply List.Sublist.cons)) ?_
     refine ⟨?_, rfl⟩)
  · rw [decide_eq_true (.inl h)]
  · rw [decide_eq_true (.inr (.inl h))]
  · subst hlb
    congr 1
    rw [decide_eq_decide]
    exact ⟨fun hh => .inr (.inr hh), fun hh => by
      obtain hh | hh | hh := hh
      · contradiction
      · contradiction
      · exact hh⟩
theorem cho1_s (G : GH) (hb : Nat) (H : Hd) (iv av cv : Value) (x : Ent) : Con Tryz.prog 84 #[.agg x.cells.toArray, .pointer (some ⟨hb, 0, none⟩)] G [(hb, hardO (hdL H.pr H.pn H.base iv av cv))] (Keeps (.bool (choBad H x)) G [(hb, hardO (hdL H.pr H.pn H.base iv av cv))]) := by
  unfold choBad
  apply Con.keeps
  (refine v_enter Tryz.func84 rfl Tryz.ntmps84 rfl ?_; intro B _)
  repeat' (first | (apply v_pure; (case hop => (apply neBal; (case hx => rfl); (case hy => rfl))); (case hd => rfl)) | apply v_seq | apply v_region | apply v_nil | (apply v_take; (case hg => rfl)) | (apply v_pass; (case hg => rfl); (case hn => rfl); (case hd => rfl)) | (apply v_pure; (case hop => first | (apply p_move <;> rfl) | (apply p_le <;> rfl) | (apply p_assign <;> rfl) | (apply p_pickT <;> rfl) | (apply p_pickF <;> rfl) | (apply p_fieldAddrB <;> rfl) | (apply p_build; (case hz => rfl); (case hv => (simp only [List.map_cons, List.map_nil]; repeat (with_reducible exact evs_nil))); (case hb => (apply bldL; repeat (exact bld_nil)))) | fail); (case hd => rfl)) | (apply v_guardB; (case h1 => rfl); (case h2 => rfl); all_goals (intro h; (try simp only [reduceCtorEq, zzz] at h))) | (apply v_box (zs := x.cells); (case hx => rfl); (case hz => rfl); (case hd => rfl); intro b) | (apply v_read; (case hop => first | (apply r_loadNo; (case hx => rfl); (case h => (repeat (exact mhd _))); (case hd => (repeat (first | with_reducible exact dt_nil | apply dt_here))); (case hn => rfl)) | (apply r_load1; rfl; (apply Cell.own; (case h => (repeat (first | exact mhd _ | apply mtl))); rfl)) | fail); (case hd => rfl)) | fail)
  all_goals
    (refine v_ret [(hb, _)] (outsA1 rfl rfl) (by repeat (first | exact List.Sublist.refl _ | apply List.Sublist.cons)) ?_
     refine ⟨?_, rfl⟩)
  · rw [decide_eq_true (.inl h)]
  · congr 1
    rw [dec_eq, ← decide_not, decide_eq_decide]
    exact ⟨fun hh => .inr hh, fun hh => by
      obtain hh | hh := hh
      · contradiction
      · exact hh⟩
theorem chk_iff (H : Hd) : CheckP H ↔ mayP H.pr H.pn ∧ ¬ H.base < 0 ∧ ¬ (H.base = 0 ∧ 0 < H.image.length) ∧ (0 < H.base → recI 4 0 0 H.base zeroCm H.image.length = 0) ∧ chkK H.acc 0 = 0 ∧ chkK H.cho 0 = 0 ∧ H.acc.any (accBad H) = false ∧ H.cho.any (choBad H) = false := by
  constructor
  · rintro ⟨h1, h2, h3, h4, h5, h6, h7, h8⟩
    refine ⟨h1, by omega, by omega, fun hb => img_ok (b := H.base) (im := H.image) (by omega) (by omega), h5, h6, ?_, ?_⟩
    · rw [List.any_eq_false]
      intro e he
      obtain ⟨a1, a2, a3⟩ := h7 e he
      unfold accBad
      rw [decide_eq_true_iff]
      rintro (h | h | h)
      · omega
      · exact a2 h.1
      · exact a3 h
    · rw [List.any_eq_false]
      intro e he
      obtain ⟨a1, a2⟩ := h8 e he
      have hm := (one_parts (chk_one h6 e he)).2.2.1
      unfold mayP at hm
      unfold choBad
      rw [decide_eq_true_iff]
      omega
  · rintro ⟨h1, h2, h3, h4, h5, h6, h7, h8⟩
    have hb : H.base ≤ 4294967296 ∧ H.image.length ≤ 32768 ∧ (0 < H.base ↔ 0 < H.image.length) := by
      by_cases h0 : 0 < H.base
      · obtain ⟨-, r2, r3, -, r5⟩ := rec0 (h4 h0)
        have r2' := r2.2 (.inr (.inr rfl))
        have r6 : (4 : Int) = 4 ↔ 0 < H.image.length := Decidable.not_not.1 fun hh => r5 (.inr (.inr (.inr hh)))
        have := r6.1 rfl
        omega
      · omega
    refine ⟨h1, by omega, hb.2.1, hb.2.2, h5, h6, fun e he => ?_, fun e he => ?_⟩
    · have ha := List.any_eq_false.1 h7 e he
      have hm := (one_parts (chk_one h5 e he)).2.2.1
      unfold accBad at ha
      rw [decide_eq_true_iff] at ha
      unfold mayP at hm
      exact ⟨by omega, by omega, fun h => ha (.inr (.inr h))⟩
    · have ha := List.any_eq_false.1 h8 e he
      unfold choBad at ha
      rw [decide_eq_true_iff] at ha
      omega
theorem hChk_s {G : GH} (hT : TabsG G) {H : Hd} {L : List Value} (hh : HdV G H L) : Con Tryz.prog 48 #[.agg L.toArray] G [] (Just (.int .i64 (if CheckP H then 0 else 3)) G) := by
  obtain ⟨iv, av, cv, rfl, hi, ha, hc⟩ := hh
  obtain ⟨A0, c0, rfl, hl0, hm0, -⟩ := hi.openInt
  simp only [maxLen] at hm0
  have qm := may_s G H.pr H.pn
  have qr := recCheck_s hT 4 0 0 H.base zeroCm zeroCm_okV A0 H.image.length c0 (by omega)
  have qa := entCheck_s hT ha
  have qc := entCheck_s hT hc
  have qA := fun hb => has_s ha 82 [.pointer (some ⟨hb, 0, none⟩)] [(hb, hardO (hdL H.pr H.pn H.base (.slice A0 H.image.length c0) av cv))] (accBad H) (fun e _ => acc1_s G hb H (.slice A0 H.image.length c0) av cv e)
  have qC := fun hb => has_s hc 84 [.pointer (some ⟨hb, 0, none⟩)] [(hb, hardO (hdL H.pr H.pn H.base (.slice A0 H.image.length c0) av cv))] (choBad H) (fun e _ => cho1_s G hb H (.slice A0 H.image.length c0) av cv e)
  have hiff := chk_iff H
  obtain ⟨A1, c1, rfl, -⟩ := ha.open
  obtain ⟨A2, c2, rfl, -⟩ := hc.open
  generalize hb1 : decide (mayP H.pr H.pn) = b1 at *
  generalize recI 4 0 0 H.base zeroCm H.image.length = I1 at *
  generalize chkK H.acc 0 = I2 at *
  generalize chkK H.cho 0 = I3 at *
  generalize hb4 : H.acc.any (accBad H) = b4 at *
  generalize hb5 : H.cho.any (choBad H) = b5 at *
  apply Con.just
  (refine v_enter Tryz.func48 rfl Tryz.ntmps48 rfl ?_; intro B _)
  repeat' (first | apply v_seq | apply v_region | apply v_nil | apply v_skip | (apply v_take; (case hg => rfl)) | (apply v_pass; (case hg => rfl); (case hn => rfl); (case hd => rfl)) | (apply v_passN; (case hg => rfl); (case hn => rfl); (case hd => rfl)) | (apply v_pure; (case hop => first | (apply p_move <;> rfl) | (apply p_eq <;> rfl) | (apply p_lt <;> rfl) | (apply p_gt <;> rfl) | (apply p_ne <;> rfl) | (apply p_assign <;> rfl) | (apply p_pickT <;> rfl) | (apply p_pickF <;> rfl) | (apply p_not <;> rfl) | (apply p_lenSlice <;> rfl) | (apply p_fieldAddrB <;> rfl) | (apply p_makeFunc <;> rfl) | (apply p_build; (case hz => rfl); (case hv => (simp only [List.map_cons, List.map_nil]; repeat (first | with_reducible exact evs_nil | (apply evs_cons; (case h1 => rfl))))); (case hb => (apply bldL; repeat (first | exact bld_nil | (apply bld_cons; (case hpf => rfl); (case hc => rfl); (case hs => rfl); (case hl => rfl); (case ho => ((repeat (first | with_reducible exact ov_nil | apply ov_cons)); done))))))) | fail); (case hd => rfl)) | (apply v_condT; (case hc => rfl)) | (apply v_condF; (case hc => rfl)) | (apply v_cond; (case hc => rfl); all_goals (intro h; (try simp only [reduceCtorEq, zzz] at h))) | (apply v_guardB; (case h1 => rfl); (case h2 => rfl); all_goals (intro h; (try simp only [reduceCtorEq, zzz] at h); first | (exfalso; omega) | skip)) | (apply v_callJ (hs := qm); (case ha => rfl); (case hd => rfl)) | (apply v_callJ (hs := qr); (case ha => rfl); (case hd => rfl)) | (apply v_callJ (hs := qa); (case ha => rfl); (case hd => rfl)) | (apply v_callJ (hs := qc); (case ha => rfl); (case hd => rfl)) | (apply v_callK (hs := qA _); (case ha => rfl); (case hp => exact (Pick.perm (by repeat (exact Pick.here _)))); (case hd => rfl)) | (apply v_callK (hs := qC _); (case ha => rfl); (case hp => exact (Pick.perm (by repeat (exact Pick.here _)))); (case hd => rfl)) | (apply v_read; (case hop => first | (apply r_loadNo; (case hx => rfl); (case h => (repeat (exact mhd _))); (case hd => (repeat (first | with_reducible exact dt_nil | apply dt_here))); (case hn => rfl)) | (apply r_load1; rfl; (apply Cell.own; (case h => (repeat (exact mhd _))); rfl)) | fail); (case hd => rfl)) | (apply v_box; (case hx => rfl); (case hz => rfl); (case hd => rfl); intro b) | fail)
  all_goals
    (refine v_ret [] (outsA1 rfl rfl) (by repeat (exact List.nil_sublist _)) ?_
     refine ⟨?_, rfl⟩
     first
       | (rw [if_pos (hiff.2 ⟨of_decide_eq_true (hb1.trans (by assumption)), by omega, by omega, fun _ => by omega, by assumption, by assumption, by assumption, by assumption⟩)]; done)
       | (rw [if_neg (fun hh => by
            obtain ⟨z1, z2, z3, z4, z5, z6, z7, z8⟩ := hiff.1 hh
            first
              | omega
              | exact absurd ((decide_eq_true z1).symm.trans (hb1.trans ‹b1 = false›)) (by decide)
              | exact absurd (z7.symm.trans ‹b4 = true›) (by decide)
              | exact absurd (z8.symm.trans ‹b5 = true›) (by decide))]; done)
       | skip)
def promRec (r n : Int) : Rc := ⟨1, r, n, 0, zeroC, []⟩
def accRec (e : Ent) : Rc := ⟨2, e.round, e.node, e.index, e.cmd, []⟩
def choRec (e : Ent) : Rc := ⟨3, 0, 0, e.index, e.cmd, []⟩
def recsOf (H : Hd) : List Rc := (if 0 < H.base then [imgRec H.base H.image] else []) ++ ((if H.pr = 0 ∧ H.pn = 0 then [] else [promRec H.pr H.pn]) ++ (H.acc.map accRec ++ H.cho.map choRec))
theorem recs_len {H : Hd} : (recsOf H).length ≤ 2 + H.acc.length + H.cho.length := by
  unfold recsOf
  simp only [List.length_append, List.length_map]
  split <;> split <;> simp <;> omega
theorem recs_ok {H : Hd} {n : Nat} (g : Good n H) : ∀ x ∈ recsOf H, x.cmd.ok ∧ x.small := by
  have hm := g.may
  have hb := g.base
  unfold mayP at hm
  intro x hx
  unfold recsOf at hx
  simp only [List.mem_append, List.mem_map] at hx
  obtain hx | hx | ⟨e, he, rfl⟩ | ⟨e, he, rfl⟩ := hx
  · split at hx
    · rw [List.mem_singleton] at hx
      subst hx
      refine ⟨zeroC_ok, ?_⟩
      unfold Rc.small imgRec
      simp only
      omega
    · simp at hx
  · split at hx
    · simp at hx
    · rw [List.mem_singleton] at hx
      subst hx
      refine ⟨zeroC_ok, ?_⟩
      unfold Rc.small promRec
      simp only
      omega
  · obtain ⟨a1, a2, a3, a4, a5⟩ := g.acc e he
    obtain ⟨b1, b2, b3, b4⟩ := one_parts a1
    unfold mayP at b3
    refine ⟨a2.2.2.2, ?_⟩
    unfold Rc.small accRec
    simp only
    omega
  · obtain ⟨a1, a2, a3, a4, a5⟩ := g.cho e he
    obtain ⟨b1, b2, b3, b4⟩ := one_parts a1
    refine ⟨a2.2.2.2, ?_⟩
    unfold Rc.small choRec
    simp only
    omega
theorem neBoolT {σ : Env} {ty t t' : TypeId} {a b : Operand} {x y : Bool} [Ty Tryz.prog t .bool] (h : ¬ x = y) (hx : Env.ev σ a = some (.bool x)) (hy : Env.ev σ b = some (.bool y)) : PureOp Tryz.prog (.binOp .neq t a b t') ty σ (.bool true) := by
  have := p_neB (P := Tryz.prog) (t := t) (t' := t') (ty := ty) hx hy
  have e : (x == y) = false := by simpa using h
  rwa [e] at this
theorem rCheckNo_s {G : GH} {H : Hd} {L : List Value} (hh : HdV G H L) (hno : ¬ CheckP H) : Con Tryz.prog 14 #[.agg L.toArray] G [] (Just (.bool false) G) := by
  obtain ⟨iv, av, cv, rfl, hi, ha, hc⟩ := hh
  have qa := refEntCheck_s ha
  have qc := refEntCheck_s hc
  have qm := refMay_s G H.pr H.pn
  unfold CheckP at hno
  generalize hI1 : chkK H.acc 0 = I1 at *
  generalize hI2 : chkK H.cho 0 = I2 at *
  generalize hmb : decide (mayP H.pr H.pn) = mb at *
  obtain ⟨A0, c0, rfl, hl0, hm0, -⟩ := hi.openInt
  obtain ⟨A1, c1, rfl, hl1, hm1, hs1, hcp1, hcb1, -, -⟩ := esOpen ha
  obtain ⟨A2, c2, rfl, hl2, hm2, hs2, hcp2, hcb2, -, -⟩ := esOpen hc
  simp only [maxLen] at hm0 hm1 hm2
  apply Con.just
  (refine v_enter Tryz.func14 rfl Tryz.ntmps14 rfl ?_; intro B _)
  by_cases hiff : (0 < H.base ↔ 0 < H.image.length)
  rotate_left
  · have hbi : ¬ dec (0 < H.base) = dec (0 < (H.image.length : Int)) := by
      rw [dec_eq, dec_eq, decide_eq_decide]
      exact fun h => hiff ⟨fun k => by have := h.1 k; omega, fun k => h.2 (by omega)⟩
    repeat' (first | (apply v_pure; (case hop => (apply neBoolT (h := hbi); (case hx => rfl); (case hy => rfl))); (case hd => rfl)) | apply v_seq | apply v_region | apply v_nil | (apply v_take; (case hg => rfl)) | (apply v_pass; (case hg => rfl); (case hn => rfl); (case hd => rfl)) | (apply v_pure; (case hop => first | (apply p_move <;> rfl) | (apply p_lt <;> rfl) | (apply p_gt <;> rfl) | (apply p_assign <;> rfl) | (apply p_pickT <;> rfl) | (apply p_pickF <;> rfl) | (apply p_not <;> rfl) | (apply p_lenSlice <;> rfl) | (apply p_fieldAddrB <;> rfl) | fail); (case hd => rfl)) | (apply v_condT; (case hc => rfl)) | (apply v_guardB; (case h1 => rfl); (case h2 => rfl); all_goals (intro h; (try simp only [reduceCtorEq, zzz] at h))) | (apply v_callJ (hs := qm); (case ha => rfl); (case hd => rfl)) | (apply v_read; (case hop => first | (apply r_loadNo; (case hx => rfl); (case h => (repeat (exact mhd _))); (case hd => (repeat (first | with_reducible exact dt_nil | apply dt_here))); (case hn => rfl)) | (apply r_load1; rfl; (apply Cell.own; (case h => (repeat (exact mhd _))); rfl)) | fail); (case hd => rfl)) | (apply v_box; (case hx => rfl); (case hz => rfl); (case hd => rfl); intro b) | fail)
    all_goals
      (refine v_ret [] (outsA1 rfl rfl) (by repeat (exact List.nil_sublist _)) ?_
       exact ⟨rfl, rfl⟩)
  have hbi : dec (0 < H.base) = dec (0 < (H.image.length : Int)) := by
    rw [dec_eq, dec_eq]
    congr 1
    rw [eq_iff_iff]
    omega
  repeat' (first | (apply v_pure; (case hop => (apply neBoolF (h := hbi); (case hx => rfl); (case hy => rfl))); (case hd => rfl)) | apply v_seq | apply v_region | apply v_nil | apply v_skip | apply v_block | (apply v_take; (case hg => rfl)) | (apply v_pass; (case hg => rfl); (case hn => rfl); (case hd => rfl)) | (apply v_pure; (case hop => first | (apply p_move <;> rfl) | (apply p_lt <;> rfl) | (apply p_gt <;> rfl) | (apply p_ne <;> rfl) | (apply p_assign <;> rfl) | (apply p_pickT <;> rfl) | (apply p_pickF <;> rfl) | (apply p_not <;> rfl) | (apply p_lenSlice <;> rfl) | (apply p_fieldAddrB <;> rfl) | fail); (case hd => rfl)) | (apply v_condT; (case hc => rfl)) | (apply v_cond; (case hc => rfl); all_goals (intro h; (try simp only [reduceCtorEq, zzz] at h))) | (apply v_guardB; (case h1 => rfl); (case h2 => rfl); all_goals (intro h; (try simp only [reduceCtorEq, zzz] at h))) | (apply v_callJ (hs := qm); (case ha => rfl); (case hd => rfl)) | (apply v_callJ (hs := qa); (case ha => rfl); (case hd => rfl)) | (apply v_callJ (hs := qc); (case ha => rfl); (case hd => rfl)) | (apply v_read; (case hop => first | (apply r_loadNo; (case hx => rfl); (case h => (repeat (exact mhd _))); (case hd => (repeat (first | with_reducible exact dt_nil | apply dt_here))); (case hn => rfl)) | (apply r_load1; rfl; (apply Cell.own; (case h => (repeat (exact mhd _))); rfl)) | fail); (case hd => rfl)) | (apply v_box; (case hx => rfl); (case hz => rfl); (case hd => rfl); intro b) | fail)
  iterate 6
    · refine v_ret [] (outsA1 rfl rfl) (by repeat (exact List.nil_sublist _)) ?_
      exact ⟨rfl, rfl⟩
  have hmay : mayP H.pr H.pn := of_decide_eq_true (hmb.trans (by assumption))
  rename Nat => hb'
  refine v_loop [3, 1] (fun us G' μ' => G' = G ∧ μ' = [(hb', hardO (hdL H.pr H.pn H.base (.slice A0 H.image.length c0) (.slice A1 H.acc.length c1) (.slice A2 H.cho.length c2)))] ∧ ∃ k, k ≤ H.acc.length ∧ us = [Value.int .i64 (k : Nat), .pointer (some ⟨hb', 0, none⟩)] ∧ ∀ i (h : i < H.acc.length), i < k → H.base < (H.acc[i]).index ∧ (H.acc[i]).round ≠ 0 ∧ ¬ lessP H.pr H.pn (H.acc[i]).round (H.acc[i]).node) (fun us => H.acc.length - (headI us).toNat) rfl ⟨rfl, rfl, 0, by omega, rfl, by omega⟩ ?_
  rintro us G' μ' ⟨rfl, rfl, k, hk, rfl, hall⟩
  by_cases hlt : k < H.acc.length
  · have e1 : ((k : Nat) : Int).toNat = k := by omega
    have kc0 : GH.cell? G' (((adr A1).add (k * 10)).add 0) = some (.int .i64 (H.acc[k]).index) := (hcp1 k hlt).cell (j := 0) rfl
    have kc1 := hcb1 k hlt
    have hnext : H.base < (H.acc[k]).index ∧ (H.acc[k]).round ≠ 0 ∧ ¬ lessP H.pr H.pn (H.acc[k]).round (H.acc[k]).node → ∀ i (h : i < H.acc.length), i < k + 1 → H.base < (H.acc[i]).index ∧ (H.acc[i]).round ≠ 0 ∧ ¬ lessP H.pr H.pn (H.acc[i]).round (H.acc[i]).node := fun hh i hi hik => by
      by_cases e : i = k
      · subst e; exact hh
      · exact hall i hi (by omega)
    generalize hxe : H.acc[k] = e at *
    have ql := refLess_s G' H.pr H.pn e.round e.node
    generalize hlb : decide (lessP H.pr H.pn e.round e.node) = lb at *
    have hA := hs1 (by omega)
    repeat' (first | apply v_seq | apply v_region | apply v_nil | apply v_skip | apply v_block | (apply v_pure; (case hop => first | (apply p_move <;> rfl) | (apply p_lt <;> rfl) | (apply p_lenSlice <;> rfl) | (apply p_fieldAddrB <;> rfl) | (apply p_fieldAddr <;> rfl) | (apply p_indexAddrS; (case hx => rfl); (case hi => rfl); (case h0 => omega); (case h => omega); (case hA => assumption)) | fail); (case hd => rfl)) | (apply v_cond; (case hc => rfl); all_goals (intro h; (try simp only [reduceCtorEq, zzz] at h); first | (exfalso; omega) | skip)) | (apply v_read; (case hop => (apply r_loadN; rfl; exact CellsAt.frozen kc1; rfl)); (case hd => rfl)) | (apply v_read; (case hop => (apply r_load1; rfl; (apply Cell.own; (case h => (repeat (exact mhd _))); rfl))); (case hd => rfl)) | (apply v_alloc; (case hz => rfl); (case hd => rfl); intro b) | (apply v_store; (case hp => rfl); (case hx => rfl); (case hc => rfl); (case hsz => rfl); (case h1 => rfl); (case hb => (repeat (exact mhd _))); (case hfit => exact nle rfl); (case hov => ((repeat (first | with_reducible exact ov_nil | apply ov_cons)); done)); (case hu => repeat (exact Upd.here _ _))) | fail)
    refine d_start _ (by kernel_rfl) (by kernel_rfl) (by kernel_rfl) (fun _ he => he) ?_
    all_goals (apply dtk 0; (case hi => rfl); (case hop => (apply prd; apply p_fieldAddrB <;> rfl)); (case hq => kernel_rfl))
    all_goals (apply dtk 1; (case hi => rfl); (case hop => (apply r_load1; rfl; (apply Cell.own; (case h => (repeat (first | exact mhd _ | apply mtl))); rfl))); (case hq => kernel_rfl))
    all_goals (apply dtk 2; (case hi => rfl); (case hop => (apply prd; apply p_move <;> rfl)); (case hq => kernel_rfl))
    all_goals (apply dtk 3; (case hi => rfl); (case hop => (apply prd; apply p_indexAddrS; (case hx => rfl); (case hi => rfl); (case h0 => omega); (case h => omega); (case hA => assumption))); (case hq => kernel_rfl))
    all_goals (apply dtk 4; (case hi => rfl); (case hop => (apply prd; apply p_fieldAddr <;> rfl)); (case hq => kernel_rfl))
    all_goals (apply dtk 5; (case hi => rfl); (case hop => ((apply r_load1; rfl; exact Cell.frozen kc0))); (case hq => kernel_rfl))
    all_goals (apply dtk 6; (case hi => rfl); (case hop => (apply prd; apply p_fieldAddrB <;> rfl)); (case hq => kernel_rfl))
    all_goals (apply dtk 7; (case hi => rfl); (case hop => (apply r_load1; rfl; (apply Cell.own; (case h => (repeat (first | exact mhd _ | apply mtl))); rfl))); (case hq => kernel_rfl))
    all_goals (apply dtk 8; (case hi => rfl); (case hop => (apply prd; apply p_le <;> rfl)); (case hq => kernel_rfl))
    all_goals (apply dtk 9; (case hi => rfl); (case hop => (apply prd; apply p_move <;> rfl)); (case hq => kernel_rfl))
    all_goals (try (apply d_guardB 10; (case hi => rfl); (case hgd => rfl); (case h1 => rfl); (case h2 => rfl); all_goals (intro h; (try simp only [reduceCtorEq, zzz] at h))))
    all_goals (first | (apply dpa 10; (case hi => rfl); (case hg => rfl); (case hn => rfl); (case hq => kernel_rfl)) | (apply dtg 10; (case hi => rfl); (case hg => rfl); (case hop => (apply prd; apply p_fieldAddrB <;> rfl)); (case hq => kernel_rfl)) | fail)
    all_goals (try (apply d_guardB 11; (case hi => rfl); (case hgd => rfl); (case h1 => rfl); (case h2 => rfl); all_goals (intro h; (try simp only [reduceCtorEq, zzz] at h))))
    all_goals (first | (apply dpa 11; (case hi => rfl); (case hg => rfl); (case hn => rfl); (case hq => kernel_rfl)) | (apply dtg 11; (case hi => rfl); (case hg => rfl); (case hop => (apply r_load1; rfl; (apply Cell.own; (case h => (repeat (exact mhd _))); rfl))); (case hq => kernel_rfl)) | fail)
    all_goals (try (apply d_guardB 12; (case hi => rfl); (case hgd => rfl); (case h1 => rfl); (case h2 => rfl); all_goals (intro h; (try simp only [reduceCtorEq, zzz] at h))))
    all_goals (first | (apply dpa 12; (case hi => rfl); (case hg => rfl); (case hn => rfl); (case hq => kernel_rfl)) | (apply dtg 12; (case hi => rfl); (case hg => rfl); (case hop => (apply prd; apply p_eq <;> rfl)); (case hq => kernel_rfl)) | fail)
    all_goals (apply dtk 13; (case hi => rfl); (case hop => first | (apply prd; apply p_pickT <;> rfl) | (apply prd; apply p_pickF <;> rfl) | fail); (case hq => kernel_rfl))
    all_goals (apply dtk 14; (case hi => rfl); (case hop => (apply prd; apply p_move <;> rfl)); (case hq => kernel_rfl))
    all_goals (try (apply d_guardB 15; (case hi => rfl); (case hgd => rfl); (case h1 => rfl); (case h2 => rfl); all_goals (intro h; (try simp only [reduceCtorEq, zzz] at h))))
    all_goals (first | (apply dpa 15; (case hi => rfl); (case hg => rfl); (case hn => rfl); (case hq => kernel_rfl)) | (apply dtg 15; (case hi => rfl); (case hg => rfl); (case hop => (apply prd; apply p_fieldAddrB <;> rfl)); (case hq => kernel_rfl)) | fail)
    all_goals (try (apply d_guardB 16; (case hi => rfl); (case hgd => rfl); (case h1 => rfl); (case h2 => rfl); all_goals (intro h; (try simp only [reduceCtorEq, zzz] at h))))
    all_goals (first | (apply dpa 16; (case hi => rfl); (case hg => rfl); (case hn => rfl); (case hq => kernel_rfl)) | (apply dtg 16; (case hi => rfl); (case hg => rfl); (case hop => (apply r_loadNo; (case hx => rfl); (case h => (repeat (first | exact mhd _ | apply mtl))); (case hd => (repeat (first | with_reducible exact dt_nil | apply dt_here))); (case hn => rfl))); (case hq => kernel_rfl)) | fail)
    all_goals (try (apply d_guardB 17; (case hi => rfl); (case hgd => rfl); (case h1 => rfl); (case h2 => rfl); all_goals (intro h; (try simp only [reduceCtorEq, zzz] at h))))
    all_goals (first | (apply dpa 17; (case hi => rfl); (case hg => rfl); (case hn => rfl); (case hq => kernel_rfl)) | (apply dtg 17; (case hi => rfl); (case hg => rfl); (case hop => (apply r_loadNo; (case hx => rfl); (case h => (repeat (exact mhd _))); (case hd => (repeat (first | with_reducible exact dt_nil | apply dt_here))); (case hn => rfl))); (case hq => kernel_rfl)) | fail)
    all_goals (try (apply d_guardB 18; (case hi => rfl); (case hgd => rfl); (case h1 => rfl); (case h2 => rfl); all_goals (intro h; (try simp only [reduceCtorEq, zzz] at h))))
    all_goals (first | (apply dpa 18; (case hi => rfl); (case hg => rfl); (case hn => rfl); (case hq => kernel_rfl)) | (apply d_callJG 18 (hs := ql); (case hi => rfl); (case hg => rfl); (case hr => kernel_rfl); (case ha => rfl); (case hd => rfl)) | fail)
    all_goals (apply dtk 19; (case hi => rfl); (case hop => first | (apply prd; apply p_pickT <;> rfl) | (apply prd; apply p_pickF <;> rfl) | fail); (case hq => kernel_rfl))
    all_goals (apply d_done; (case hr => kernel_rfl))
    repeat' (first | apply v_seq | apply v_region | apply v_nil | apply v_skip | apply v_blk | (apply v_pure; (case hop => first | (apply p_move <;> rfl) | (apply p_assign <;> rfl) | (apply p_add; (case hx => rfl); (case hy => rfl); (case h => omega)) | fail); (case hd => rfl)) | (apply v_condT; (case hc => rfl)) | (apply v_cond; (case hc => rfl); all_goals (intro h; (try simp only [reduceCtorEq, zzz] at h))) | fail)
    all_goals first
      | (refine v_ret [] (outsA1 rfl rfl) (by repeat (first | exact List.Sublist.refl _ | exact List.nil_sublist _ | fail)) ?_
         exact ⟨rfl, rfl⟩)
      | (refine v_drop (ν := [(hb', _)]) (by repeat (first | exact List.Sublist.refl _ | apply List.Sublist.cons)) ?_
         refine v_again rfl ⟨rfl, rfl, k + 1, by omega, rfl, hnext ⟨by omega, by assumption, ?_⟩⟩ (by simp [headI]; omega)
         exact of_decide_eq_false (hlb.trans (by assumption)))
      | fail
  have hacc : ∀ i (h : i < H.acc.length), H.base < (H.acc[i]).index ∧ (H.acc[i]).round ≠ 0 ∧ ¬ lessP H.pr H.pn (H.acc[i]).round (H.acc[i]).node := fun i h => hall i h (by omega)
  clear hall
  repeat' (first | apply v_seq | apply v_region | apply v_nil | apply v_block | (apply v_exit; (case hp => rfl)) | (apply v_pure; (case hop => first | (apply p_move <;> rfl) | (apply p_lt <;> rfl) | (apply p_assign <;> rfl) | (apply p_lenSlice <;> rfl) | (apply p_fieldAddrB <;> rfl) | fail); (case hd => rfl)) | (apply v_cond; (case hc => rfl); all_goals (intro h; (try simp only [reduceCtorEq, zzz] at h); first | (exfalso; omega) | skip)) | (apply v_read; (case hop => (apply r_load1; rfl; (apply Cell.own; (case h => (repeat (exact mhd _))); rfl))); (case hd => rfl)) | fail)
  refine v_loop [5, 1] (fun us G2 μ' => G2 = G' ∧ μ' = [(hb', hardO (hdL H.pr H.pn H.base (.slice A0 H.image.length c0) (.slice A1 H.acc.length c1) (.slice A2 H.cho.length c2)))] ∧ ∃ k, k ≤ H.cho.length ∧ us = [Value.int .i64 (k : Nat), .pointer (some ⟨hb', 0, none⟩)] ∧ ∀ i (h : i < H.cho.length), i < k → H.base < (H.cho[i]).index ∧ (H.cho[i]).round = 0) (fun us => H.cho.length - (headI us).toNat) rfl ⟨rfl, rfl, 0, by omega, rfl, by omega⟩ ?_
  rintro us G2 μ' ⟨rfl, rfl, k, hk, rfl, hall⟩
  by_cases hlt : k < H.cho.length
  · have e1 : ((k : Nat) : Int).toNat = k := by omega
    have kc0 : GH.cell? G2 (((adr A2).add (k * 10)).add 0) = some (.int .i64 (H.cho[k]).index) := (hcp2 k hlt).cell (j := 0) rfl
    have kc1 : GH.cell? G2 ((((adr A2).add (k * 10)).add 1).add 0) = some (.int .i64 (H.cho[k]).round) := (hcb2 k hlt).cell (j := 0) rfl
    have hnext : H.base < (H.cho[k]).index ∧ (H.cho[k]).round = 0 → ∀ i (h : i < H.cho.length), i < k + 1 → H.base < (H.cho[i]).index ∧ (H.cho[i]).round = 0 := fun hh i hi hik => by
      by_cases e : i = k
      · subst e; exact hh
      · exact hall i hi (by omega)
    generalize hxe : H.cho[k] = e at *
    have hA := hs2 (by omega)
    repeat' (first | apply v_seq | apply v_region | apply v_nil | apply v_skip | apply v_block | (apply v_pure; (case hop => first | (apply p_move <;> rfl) | (apply p_lt <;> rfl) | (apply p_lenSlice <;> rfl) | (apply p_fieldAddrB <;> rfl) | fail); (case hd => rfl)) | (apply v_cond; (case hc => rfl); all_goals (intro h; (try simp only [reduceCtorEq, zzz] at h); first | (exfalso; omega) | skip)) | (apply v_read; (case hop => (apply r_load1; rfl; (apply Cell.own; (case h => (repeat (exact mhd _))); rfl))); (case hd => rfl)) | fail)
    refine d_start _ (by kernel_rfl) (by kernel_rfl) (by kernel_rfl) (fun _ he => he) ?_
    all_goals (apply dtk 0; (case hi => rfl); (case hop => (apply prd; apply p_fieldAddrB <;> rfl)); (case hq => kernel_rfl))
    all_goals (apply dtk 1; (case hi => rfl); (case hop => (apply r_load1; rfl; (apply Cell.own; (case h => (repeat (exact mhd _))); rfl))); (case hq => kernel_rfl))
    all_goals (apply dtk 2; (case hi => rfl); (case hop => (apply prd; apply p_move <;> rfl)); (case hq => kernel_rfl))
    all_goals (apply dtk 3; (case hi => rfl); (case hop => (apply prd; apply p_indexAddrS; (case hx => rfl); (case hi => rfl); (case h0 => omega); (case h => omega); (case hA => assumption))); (case hq => kernel_rfl))
    all_goals (apply dtk 4; (case hi => rfl); (case hop => (apply prd; apply p_fieldAddr <;> rfl)); (case hq => kernel_rfl))
    all_goals (apply dtk 5; (case hi => rfl); (case hop => ((apply r_load1; rfl; exact Cell.frozen kc0))); (case hq => kernel_rfl))
    all_goals (apply dtk 6; (case hi => rfl); (case hop => (apply prd; apply p_fieldAddrB <;> rfl)); (case hq => kernel_rfl))
    all_goals (apply dtk 7; (case hi => rfl); (case hop => (apply r_load1; rfl; (apply Cell.own; (case h => (repeat (exact mhd _))); rfl))); (case hq => kernel_rfl))
    all_goals (apply dtk 8; (case hi => rfl); (case hop => (apply prd; apply p_le <;> rfl)); (case hq => kernel_rfl))
    all_goals (apply dtk 9; (case hi => rfl); (case hop => (apply prd; apply p_move <;> rfl)); (case hq => kernel_rfl))
    all_goals (try (apply d_guardB 10; (case hi => rfl); (case hgd => rfl); (case h1 => rfl); (case h2 => rfl); all_goals (intro h; (try simp only [reduceCtorEq, zzz] at h))))
    all_goals (first | (apply dpa 10; (case hi => rfl); (case hg => rfl); (case hn => rfl); (case hq => kernel_rfl)) | (apply dtg 10; (case hi => rfl); (case hg => rfl); (case hop => (apply prd; apply p_fieldAddrB <;> rfl)); (case hq => kernel_rfl)) | fail)
    all_goals (try (apply d_guardB 11; (case hi => rfl); (case hgd => rfl); (case h1 => rfl); (case h2 => rfl); all_goals (intro h; (try simp only [reduceCtorEq, zzz] at h))))
    all_goals (first | (apply dpa 11; (case hi => rfl); (case hg => rfl); (case hn => rfl); (case hq => kernel_rfl)) | (apply dtg 11; (case hi => rfl); (case hg => rfl); (case hop => (apply r_load1; rfl; (apply Cell.own; (case h => (repeat (exact mhd _))); rfl))); (case hq => kernel_rfl)) | fail)
    all_goals (try (apply d_guardB 12; (case hi => rfl); (case hgd => rfl); (case h1 => rfl); (case h2 => rfl); all_goals (intro h; (try simp only [reduceCtorEq, zzz] at h))))
    all_goals (first | (apply dpa 12; (case hi => rfl); (case hg => rfl); (case hn => rfl); (case hq => kernel_rfl)) | (apply dtg 12; (case hi => rfl); (case hg => rfl); (case hop => (apply prd; apply p_move <;> rfl)); (case hq => kernel_rfl)) | fail)
    all_goals (try (apply d_guardB 13; (case hi => rfl); (case hgd => rfl); (case h1 => rfl); (case h2 => rfl); all_goals (intro h; (try simp only [reduceCtorEq, zzz] at h))))
    all_goals (first | (apply dpa 13; (case hi => rfl); (case hg => rfl); (case hn => rfl); (case hq => kernel_rfl)) | (apply dtg 13; (case hi => rfl); (case hg => rfl); (case hop => (apply prd; apply p_indexAddrS; (case hx => rfl); (case hi => rfl); (case h0 => omega); (case h => omega); (case hA => assumption))); (case hq => kernel_rfl)) | fail)
    all_goals (try (apply d_guardB 14; (case hi => rfl); (case hgd => rfl); (case h1 => rfl); (case h2 => rfl); all_goals (intro h; (try simp only [reduceCtorEq, zzz] at h))))
    all_goals (first | (apply dpa 14; (case hi => rfl); (case hg => rfl); (case hn => rfl); (case hq => kernel_rfl)) | (apply dtg 14; (case hi => rfl); (case hg => rfl); (case hop => (apply prd; apply p_fieldAddr <;> rfl)); (case hq => kernel_rfl)) | fail)
    all_goals (try (apply d_guardB 15; (case hi => rfl); (case hgd => rfl); (case h1 => rfl); (case h2 => rfl); all_goals (intro h; (try simp only [reduceCtorEq, zzz] at h))))
    all_goals (first | (apply dpa 15; (case hi => rfl); (case hg => rfl); (case hn => rfl); (case hq => kernel_rfl)) | (apply dtg 15; (case hi => rfl); (case hg => rfl); (case hop => (apply prd; apply p_fieldAddrB <;> rfl)); (case hq => kernel_rfl)) | fail)
    all_goals (try (apply d_guardB 16; (case hi => rfl); (case hgd => rfl); (case h1 => rfl); (case h2 => rfl); all_goals (intro h; (try simp only [reduceCtorEq, zzz] at h))))
    all_goals (first | (apply dpa 16; (case hi => rfl); (case hg => rfl); (case hn => rfl); (case hq => kernel_rfl)) | (apply dtg 16; (case hi => rfl); (case hg => rfl); (case hop => ((apply r_load1; rfl; exact Cell.frozen kc1))); (case hq => kernel_rfl)) | fail)
    all_goals (try (apply d_guardB 17; (case hi => rfl); (case hgd => rfl); (case h1 => rfl); (case h2 => rfl); all_goals (intro h; (try simp only [reduceCtorEq, zzz] at h))))
    all_goals (first | (apply dpa 17; (case hi => rfl); (case hg => rfl); (case hn => rfl); (case hq => kernel_rfl)) | (apply dtg 17; (case hi => rfl); (case hg => rfl); (case hop => (apply prd; apply p_ne <;> rfl)); (case hq => kernel_rfl)) | fail)
    all_goals (apply dtk 18; (case hi => rfl); (case hop => first | (apply prd; apply p_pickT <;> rfl) | (apply prd; apply p_pickF <;> rfl) | fail); (case hq => kernel_rfl))
    all_goals (apply d_done; (case hr => kernel_rfl))
    repeat' (first | apply v_seq | apply v_region | apply v_nil | apply v_skip | apply v_blk | (apply v_pure; (case hop => first | (apply p_move <;> rfl) | (apply p_assign <;> rfl) | (apply p_add; (case hx => rfl); (case hy => rfl); (case h => omega)) | fail); (case hd => rfl)) | (apply v_condT; (case hc => rfl)) | (apply v_cond; (case hc => rfl); all_goals (intro h; (try simp only [reduceCtorEq, zzz] at h))) | fail)
    all_goals first
      | (refine v_ret [] (outsA1 rfl rfl) (by repeat (first | exact List.Sublist.refl _ | exact List.nil_sublist _ | fail)) ?_
         exact ⟨rfl, rfl⟩)
      | (refine v_again rfl ⟨rfl, rfl, k + 1, by omega, rfl, hnext ⟨by omega, by omega⟩⟩ (by simp [headI]; omega))
      | fail
  · exfalso
    apply hno
    refine ⟨hmay, by omega, by omega, hiff, by assumption, by assumption, fun e he => ?_, fun e he => ?_⟩
    · obtain ⟨i, hi, rfl⟩ := List.getElem_of_mem he
      exact hacc i hi
    · obtain ⟨i, hi, rfl⟩ := List.getElem_of_mem he
      exact hall i hi (by omega)
noncomputable def errsF (f : Int) : List Rc → Int
  | [] => 0
  | x :: l => if errF f x = 0 then errsF f l else errF f x
noncomputable def hasF (f : Int) (l : List Rc) : Int := if f = 1 ∨ f = 2 then errsF f l else 8
theorem errsF_drop {f : Int} {l : List Rc} {k : Nat} (h : k < l.length) : errsF f (l.drop k) = if errF f l[k] = 0 then errsF f (l.drop (k + 1)) else errF f l[k] := by
  rw [List.drop_eq_getElem_cons h]
  rfl
theorem has20_s {G : GH} (f : Int) {l : List Rc} {lv : Value} (hs : Rs G lv l) : Con Tryz.prog 13 #[.int .i64 f, lv] G [] (Just (.int .i64 (hasF f l)) G) := by
  obtain ⟨A, c, ivf, rfl, hlc, hcm, hsome, hcp, him, hok⟩ := rsOpen hs
  simp only [maxLen] at hcm
  apply Con.just
  unfold hasF
  by_cases hf : f = 1 ∨ f = 2
  · rw [if_pos hf]
    (refine v_enter Tryz.func13 rfl Tryz.ntmps13 rfl ?_; intro B _)
    repeat' (first | apply v_seq | apply v_region | apply v_nil | apply v_skip | apply v_block | (apply v_take; (case hg => rfl)) | (apply v_pure; (case hop => first | (apply p_move <;> rfl) | (apply p_lt <;> rfl) | (apply p_gt <;> rfl) | (apply p_assign <;> rfl) | (apply p_pickF <;> rfl) | fail); (case hd => rfl)) | (apply v_cond; (case hc => rfl); all_goals (intro h; (try simp only [reduceCtorEq, zzz] at h); first | (exfalso; omega) | skip)) | (apply v_guardB; (case h1 => rfl); (case h2 => rfl); all_goals (intro h; (try simp only [reduceCtorEq, zzz] at h); first | (exfalso; omega) | skip)) | fail)
    all_goals first
      | (exfalso; omega)
      | skip
    refine v_loop [5, 0, 1] (fun us G' μ' => G' = G ∧ ∃ k : Nat, k ≤ l.length ∧ errsF f l = errsF f (l.drop k) ∧ us = [Value.int .i64 (k : Nat), .int .i64 f, .slice A l.length c] ∧ μ' = []) (fun us => l.length - (headI us).toNat) rfl ⟨rfl, 0, by omega, rfl, rfl, rfl⟩ ?_
    rintro us G' _ ⟨hG', k, hk, he, rfl, rfl⟩
    subst G'
    have e1 : ((k : Nat) : Int).toNat = k := by omega
    by_cases hlt : k < l.length
    · have hA := hsome (by omega)
      have hcx := hcp k hlt
      have hix := him k hlt
      have hcok := hok _ (List.getElem_mem hlt)
      have hd := errsF_drop (f := f) hlt
      have hx : RcV G l[k] (.agg (recL l[k].kind l[k].round l[k].node l[k].index l[k].cmd (ivf k)).toArray) := ⟨_, rfl, hix⟩
      have q := refHasV_s f hx hcok.1
      rw [show hasI f l[k] = errF f l[k] by unfold errF; rw [if_pos hf]] at q
      obtain ⟨Ai, ci, hie, -⟩ := hix.openInt
      rw [hie] at q hcx
      generalize l[k] = x at *
      generalize errF f x = e at *
      repeat' (first | apply v_seq | apply v_region | apply v_nil | apply v_skip | apply v_block | apply v_blk | (apply v_pure; (case hop => first | (apply p_move <;> rfl) | (apply p_lt <;> rfl) | (apply p_ne <;> rfl) | (apply p_assign <;> rfl) | (apply p_lenSlice <;> rfl) | (apply p_add; (case hx => rfl); (case hy => rfl); (case h => omega)) | (apply p_indexAddrS; (case hx => rfl); (case hi => rfl); (case h0 => omega); (case h => omega); (case hA => assumption)) | fail); (case hd => rfl)) | (apply v_cond; (case hc => rfl); all_goals (intro h; (try simp only [reduceCtorEq, zzz] at h); first | (exfalso; omega) | skip)) | (apply v_read; (case hop => (apply r_loadN; rfl; exact CellsAt.frozen hcx; rfl)); (case hd => rfl)) | (apply v_callJ (hs := q); (case ha => rfl); (case hd => rfl)) | fail)
      all_goals first
        | (refine v_ret [] (outsA1 rfl rfl) (by repeat (exact List.Sublist.refl _)) ?_
           exact ⟨by rw [he, hd, if_neg (by assumption)], rfl⟩)
        | exact v_again rfl ⟨rfl, k + 1, by omega, by rw [he, hd, if_pos (by assumption)], rfl, rfl⟩ (by simp [headI]; omega)
        | skip
      all_goals vx_show
    · obtain rfl : k = l.length := by omega
      rw [List.drop_length] at he
      repeat' (first | apply v_seq | apply v_region | apply v_nil | (apply v_exit; (case hp => rfl)) | (apply v_pure; (case hop => first | (apply p_move <;> rfl) | (apply p_lt <;> rfl) | (apply p_assign <;> rfl) | (apply p_lenSlice <;> rfl) | fail); (case hd => rfl)) | (apply v_cond; (case hc => rfl); all_goals (intro h; (try simp only [reduceCtorEq, zzz] at h); first | (exfalso; omega) | skip)) | fail)
      refine v_ret [] (outsA1 rfl rfl) (by repeat (exact List.Sublist.refl _)) ?_
      exact ⟨by rw [he]; rfl, rfl⟩
  · rw [if_neg hf]
    (refine v_enter Tryz.func13 rfl Tryz.ntmps13 rfl ?_; intro B _)
    repeat' (first | apply v_seq | apply v_region | apply v_nil | (apply v_take; (case hg => rfl)) | (apply v_pass; (case hg => rfl); (case hn => rfl); (case hd => rfl)) | (apply v_pure; (case hop => first | (apply p_move <;> rfl) | (apply p_lt <;> rfl) | (apply p_gt <;> rfl) | (apply p_assign <;> rfl) | (apply p_pickT <;> rfl) | (apply p_pickF <;> rfl) | fail); (case hd => rfl)) | (apply v_condT; (case hc => rfl)) | (apply v_cond; (case hc => rfl); all_goals (intro h; (try simp only [reduceCtorEq, zzz] at h); first | (exfalso; omega) | skip)) | (apply v_guardB; (case h1 => rfl); (case h2 => rfl); all_goals (intro h; (try simp only [reduceCtorEq, zzz] at h))) | fail)
    all_goals first
      | (refine v_ret [] (outsA1 rfl rfl) (by repeat (exact List.Sublist.refl _)) ?_
         exact ⟨rfl, rfl⟩)
      | (exfalso; omega)
      | skip
    all_goals vx_show
theorem heavy_s {G : GH} {H : Hd} {L : List Value} (hh : HdV G H L) : Con Tryz.prog 10 #[.agg L.toArray] G [] (fun r G' μ' => G' = G ∧ μ' = [] ∧ ∃ b, r = .bool b ∧ (b = false → H.image.length ≤ 300 ∧ H.acc.length ≤ 40 ∧ H.cho.length ≤ 40)) := by
  obtain ⟨iv, av, cv, rfl, hi, ha, hc⟩ := hh
  have q1 := entLargeB_s ha
  have q2 := entLargeB_s hc
  obtain ⟨A0, c0, rfl, -, hm0, -⟩ := hi.openInt
  obtain ⟨A1, c1, rfl, -⟩ := ha.open
  obtain ⟨A2, c2, rfl, -⟩ := hc.open
  simp only [maxLen] at hm0
  (refine v_enter Tryz.func10 rfl Tryz.ntmps10 rfl ?_; intro B _)
  repeat' (first | apply v_seq | apply v_region | apply v_nil | (apply v_take; (case hg => rfl)) | (apply v_pass; (case hg => rfl); (case hn => rfl); (case hd => rfl)) | (apply v_pure; (case hop => first | (apply p_move <;> rfl) | (apply p_gt <;> rfl) | (apply p_assign <;> rfl) | (apply p_pickT <;> rfl) | (apply p_lenSlice <;> rfl) | (apply p_fieldAddrB <;> rfl) | fail); (case hd => rfl)) | (apply v_guardB; (case h1 => rfl); (case h2 => rfl); all_goals (intro h; (try simp only [reduceCtorEq, zzz] at h))) | (apply v_read; (case hop => (apply r_load1; rfl; (apply Cell.own; (case h => (repeat (exact mhd _))); rfl))); (case hd => rfl)) | (apply v_box; (case hx => rfl); (case hz => rfl); (case hd => rfl); intro b) | fail)
  · refine v_ret [] (outsA1 rfl rfl) (by repeat (exact List.nil_sublist _)) ?_
    exact ⟨rfl, rfl, _, rfl, fun h => by cases h⟩
  refine v_call (μ1 := []) (μ2 := _) rfl q1 (List.Perm.refl _) rfl ?_
  rintro _ G1 _ - ⟨rfl, rfl, b1, rfl, hb1⟩
  cases b1
  · repeat' (first | (apply v_take; (case hg => rfl)) | (apply v_pure; (case hop => first | (apply p_move <;> rfl) | (apply p_pickF <;> rfl) | (apply p_fieldAddrB <;> rfl) | fail); (case hd => rfl)) | (apply v_read; (case hop => (apply r_load1; rfl; (apply Cell.own; (case h => (repeat (exact mhd _))); rfl))); (case hd => rfl)) | fail)
    refine v_call (μ1 := []) (μ2 := _) rfl q2 (List.Perm.refl _) rfl ?_
    rintro _ G2 _ - ⟨rfl, rfl, b2, rfl, hb2⟩
    cases b2
    · repeat' (first | apply v_nil | (apply v_pure; (case hop => first | (apply p_assign <;> rfl) | (apply p_pickF <;> rfl) | fail); (case hd => rfl)) | fail)
      refine v_ret [] (outsA1 rfl rfl) (by repeat (exact List.nil_sublist _)) ?_
      exact ⟨rfl, rfl, _, rfl, fun _ => ⟨by omega, hb1 rfl, hb2 rfl⟩⟩
    · repeat' (first | apply v_nil | (apply v_pure; (case hop => first | (apply p_assign <;> rfl) | (apply p_pickF <;> rfl) | fail); (case hd => rfl)) | fail)
      refine v_ret [] (outsA1 rfl rfl) (by repeat (exact List.nil_sublist _)) ?_
      exact ⟨rfl, rfl, _, rfl, fun h => by cases h⟩
  · repeat' (first | apply v_nil | (apply v_pass; (case hg => rfl); (case hn => rfl); (case hd => rfl)) | (apply v_pure; (case hop => first | (apply p_move <;> rfl) | (apply p_assign <;> rfl) | (apply p_pickT <;> rfl) | (apply p_pickF <;> rfl) | fail); (case hd => rfl)) | fail)
    refine v_ret [] (outsA1 rfl rfl) (by repeat (exact List.nil_sublist _)) ?_
    exact ⟨rfl, rfl, _, rfl, fun h => by cases h⟩
def GrowR (G : GH) (v : Value) (l : List Rc) (ν : OH) : Prop := ∃ css : List (List Value), css.length = l.length ∧ (∀ (i : Nat) y cs, l[i]? = some y → css[i]? = some cs → RcR G y cs) ∧ Grow 42 12 v l.length css.flatten ν
theorem GrowR.none (G : GH) : GrowR G (.slice none 0 0) [] [] := ⟨[], rfl, fun i y cs h => by simp at h, Grow.nil _ _⟩
theorem GrowR.le {G G' : GH} (hle : GH.le G G') {v : Value} {l : List Rc} {ν : OH} (h : GrowR G v l ν) : GrowR G' v l ν := by
  obtain ⟨css, h1, h2, h3⟩ := h
  exact ⟨css, h1, fun i y cs hy hc => (h2 i y cs hy hc).le hle, h3⟩
theorem GrowR.snoc {G : GH} {v' : Value} {l : List Rc} {x : Rc} {rx : List Value} {ν' : OH} {css : List (List Value)} (h1 : css.length = l.length) (h2 : ∀ (i : Nat) y cs, l[i]? = some y → css[i]? = some cs → RcR G y cs) (h : Grow 42 12 v' (l.length + 1) (css.flatten ++ rx) ν') (hx : RcR G x rx) : GrowR G v' (l ++ [x]) ν' := by
  refine ⟨css ++ [rx], by simp [h1], fun i y cs hy hc => ?_, by simpa using h⟩
  by_cases hi : i < l.length
  · rw [List.getElem?_append_left hi] at hy
    rw [List.getElem?_append_left (by omega)] at hc
    exact h2 i y cs hy hc
  · rw [List.getElem?_append_right (by omega)] at hy hc
    obtain ⟨k1, k2⟩ := List.getElem?_eq_some_iff.1 hy
    have e : i = l.length := by simp at k1; omega
    subst e
    rw [Nat.sub_self] at hy
    rw [h1, Nat.sub_self] at hc
    simp only [List.getElem?_cons_zero, Option.some.injEq] at hy hc
    subst hy hc
    exact hx
theorem GrowR.rs {G G' : GH} {v : Value} {l : List Rc} {ν : OH} (h : GrowR G v l ν) (hle : GH.le G G') (hG : ∀ b o, (b, o) ∈ ν → G' b = some o) : Rs G' v l := by
  obtain ⟨css, h1, h2, h3⟩ := h
  refine Grow.sl h3 hG h1 fun i y cs hy hc => ?_
  have := (h2 i y cs hy hc).le hle
  exact ⟨(rec_one this).1, this⟩
theorem rcR_nil {G : GH} {x : Rc} (h : x.image = []) (hc : x.cmd.ok) (hs : x.small) : RcR G x (recL x.kind x.round x.node x.index x.cmd (.slice none 0 0)) := ⟨_, rfl, hc, hs, by rw [h]; exact Sl.nil⟩
def part1 (H : Hd) : List Rc := if 0 < H.base then [imgRec H.base H.image] else []
def part2 (H : Hd) : List Rc := part1 H ++ (if H.pr = 0 ∧ H.pn = 0 then [] else [promRec H.pr H.pn])
theorem recsOf_parts (H : Hd) : recsOf H = part2 H ++ H.acc.map accRec ++ H.cho.map choRec := by
  unfold recsOf part2 part1
  simp only [List.append_assoc]
theorem img_rcR {G : GH} {b : Int} {im : List Int} {iv : Value} (h : Sl G 1 (IntR .u8) iv im) (hs : (imgRec b im).small) : RcR G (imgRec b im) (recL 4 0 0 b zeroC iv) := ⟨iv, rfl, zeroC_ok, hs, h⟩
theorem records_s {G : GH} {H : Hd} {L : List Value} {n : Nat} (hh : HdV G H L) (g : Good n H) (hn : n ≤ 40) :
    Con Tryz.prog 49 #[.agg L.toArray] G [] (fun r G' μ' => μ' = [] ∧ Rs G' r (recsOf H)) := by
  have hrok := recs_ok g
  obtain ⟨iv, av, cv, rfl, hi, ha, hc⟩ := hh
  have him := g.img
  have hbs := g.base
  have hnacc := g.nacc
  have hncho := g.ncho
  have qb := bclone_s hi (by omega)
  obtain ⟨A0, c0, rfl, hl0, hm0, -, -, hwx⟩ := id hi.openInt
  obtain ⟨A1, c1, rfl, hl1, hm1, hs1, hcp1, hcb1, hcc1, -⟩ := esOpen ha
  obtain ⟨A2, c2, rfl, hl2, hm2, hs2, hcp2, hcb2, hcc2, -⟩ := esOpen hc
  simp only [maxLen] at hm0 hm1 hm2
  rw [recsOf_parts] at hrok ⊢
  have hp1 : (part1 H).length ≤ 1 := by unfold part1; split <;> simp
  have hp2 : (part2 H).length ≤ 2 := by
    unfold part2
    rw [List.length_append]
    split <;> simp <;> omega
  have hp1o : ∀ x ∈ part1 H, x.cmd.ok ∧ x.small := fun x hx => hrok x (by unfold part2; simp [hx])
  have hp2o : ∀ x ∈ part2 H, x.cmd.ok ∧ x.small := fun x hx => hrok x (by simp [hx])
  (refine v_enter Tryz.func49 rfl Tryz.ntmps49 rfl ?_; intro B _)
  repeat' (first | apply v_seq | apply v_region | apply v_nil | (apply v_pure; (case hop => first | (apply p_gt <;> rfl) | (apply p_assign <;> rfl) | (apply p_fieldAddrB <;> rfl) | fail); (case hd => rfl)) | (apply v_read; (case hop => (apply r_load1; rfl; (apply Cell.own; (case h => (repeat (exact mhd _))); rfl))); (case hd => rfl)) | (apply v_box; (case hx => rfl); (case hz => rfl); (case hd => rfl); intro b) | fail)
  rename Nat => hb
  refine v_cut (fun σ1 G' μ' => GH.le G G' ∧ ∃ v ν, EnvHas σ1 [(3, v), (1, .pointer (some ⟨hb, 0, none⟩))] ∧ GrowR G' v (part1 H) ν ∧ List.Sublist (ν ++ [(hb, hardO (hdL H.pr H.pn H.base (.slice A0 H.image.length c0) (.slice A1 H.acc.length c1) (.slice A2 H.cho.length c2)))]) μ') ?_ ?_
  · intro hcut
    refine v_cond rfl (fun h => ?_) (fun h => ?_)
    · rw [dec_true] at h
      have e1 : part1 H = [imgRec H.base H.image] := by unfold part1; rw [if_pos h]
      have hio := hp1o _ (by rw [e1]; exact List.mem_singleton.2 rfl)
      repeat' (fail)
      refine d_start _ (by kernel_rfl) (by kernel_rfl) (by kernel_rfl) (fun _ he => he) ?_
      all_goals (apply dtk 0; (case hi => rfl); (case hop => (apply prd; apply p_move <;> rfl)); (case hq => kernel_rfl))
      all_goals (apply dtk 1; (case hi => rfl); (case hop => (apply prd; apply p_fieldAddrB <;> rfl)); (case hq => kernel_rfl))
      all_goals (apply dtk 2; (case hi => rfl); (case hop => first | (apply r_loadNo; (case hx => rfl); (case h => (repeat (fail))); (case hd => (repeat (fail))); (case hn => rfl)) | (apply r_load1; rfl; (apply Cell.own; (case h => (repeat (exact mhd _))); rfl)) | (apply r_loadN; rfl; (apply CellsAt.own; (case h => (repeat (fail)))); rfl)); (case hq => kernel_rfl))
      all_goals (apply dtk 3; (case hi => rfl); (case hop => (apply prd; apply p_fieldAddrB <;> rfl)); (case hq => kernel_rfl))
      all_goals (apply dtk 4; (case hi => rfl); (case hop => first | (apply r_loadNo; (case hx => rfl); (case h => (repeat (fail))); (case hd => (repeat (fail))); (case hn => rfl)) | (apply r_load1; rfl; (apply Cell.own; (case h => (repeat (exact mhd _))); rfl)) | (apply r_loadN; rfl; (apply CellsAt.own; (case h => (repeat (fail)))); rfl)); (case hq => kernel_rfl))
      all_goals ((apply d_call 5 (hs := qb); (case hi => rfl); (case hr => kernel_rfl);  (case ha => rfl); (case hp => exact List.Perm.refl _); (case hd => rfl); (case hν' => intro e he; simp at he; simp [he]); rintro r1 _ ν1 - ⟨rfl, hg1⟩; obtain ⟨A4, c4, rfl, -, -⟩ := hg1.shape; refine d_frz ν1 (by repeat (exact PickA.here _)) (by intro e he; simp at he; simp [he]) ?_; intro G2 hle2 hG2; have k1 := img_rcR (b := H.base) (im := H.image) (hg1.ints hG2 hwx) hio.2))
      all_goals (apply dtk 6; (case hi => rfl); (case hop => (apply prd; apply p_build; (case hz => rfl); (case hv => (simp only [List.map_cons, List.map_nil]; repeat (first | with_reducible exact evs_nil | (apply evs_cons; (case h1 => rfl))))); (case hb => (apply bldL; repeat (first | exact bld_nil | (apply bld_cons; (case hpf => rfl); (case hc => rfl); (case hs => rfl); (case hl => rfl); (case ho => ((repeat (first | with_reducible exact ov_nil | apply ov_cons)); done)))))))); (case hq => kernel_rfl))
      all_goals (apply d_buildSlice 7; (case hi => rfl); (case hr => kernel_rfl); (case hT => infer_instance); (case hL => infer_instance); (case hz => rfl); (case hl => rfl); (case hv => (simp only [List.map_cons, List.map_nil]; repeat (first | with_reducible exact evs_nil | (apply evs_cons; (case h1 => rfl))))); (case hp => (apply pk_cons; (case hc => rfl); (case hs => rfl); (case h => (with_reducible exact pk_nil)); (case he => ((repeat (first | with_reducible exact ap_nil | apply ap_cons)); done)))); (case hb => rfl); (case hd => rfl); (case hν => intro e he; exact he); intro bb)
      all_goals (apply d_append 8 (hg := Grow.nil 42 12) (q' := 1) (us := recL 4 0 0 H.base zeroC (.slice A4 H.image.length c4)) (hp := PickA.perm (by repeat (exact PickA.here _))) (hsrc := Src.own (e := 42) (by repeat (exact mhd _)) rfl); (case hi => rfl); (case hr => kernel_rfl); (case hT => infer_instance); (case hL => infer_instance); (case hzs => rfl); (case hsz => omega); (case hs => rfl); (case hx => rfl); (case hb => omega); (case hb' => simp only [maxLen]; omega); (case hd => rfl); (case h1 => rfl); (case hν => intro e he; (simp at he; simp [he]; done)); intro v3 n3 hg3)
      all_goals (apply dtk 9; (case hi => rfl); (case hop => (apply prd; apply p_assign <;> rfl)); (case hq => kernel_rfl))
      all_goals (apply d_done; (case hr => kernel_rfl))
      rw [e1] at hcut
      refine hcut _ _ _ ⟨hle2, v3, n3, ⟨rfl, rfl, trivial⟩, ?_, (List.Sublist.append_left (by repeat (first | exact List.Sublist.refl _ | apply List.Sublist.cons)) _)⟩
      exact GrowR.snoc (css := []) (l := []) rfl (fun i y cs h => by simp at h) hg3 k1
    · rw [dec_false] at h
      have e1 : part1 H = [] := by unfold part1; rw [if_neg h]
      rw [e1] at hcut
      apply v_skip
      exact hcut _ _ _ ⟨GH.le_refl _, .slice none 0 0, [], ⟨rfl, rfl, trivial⟩, GrowR.none _, (by repeat (exact List.Sublist.refl _))⟩
  rintro σ1 G1 μ1 ⟨hle1, v1, ν1, hE, hg1, hμ⟩
  refine v_drop hμ (v_has hE ?_)
  clear hE hμ
  repeat' (first | apply v_seq | apply v_region | apply v_nil | (apply v_pure; (case hop => first | (apply p_fieldAddrB <;> rfl) | (apply p_build; (case hz => rfl); (case hv => (simp only [List.map_cons, List.map_nil]; repeat (with_reducible exact evs_nil))); (case hb => (apply bldL; repeat (exact bld_nil)))) | fail); (case hd => rfl)) | (apply v_pure; (case hop => (apply neBal; (case hx => rfl); (case hy => rfl))); (case hd => rfl)) | (apply v_read; (case hop => (apply r_loadNo; (case hx => rfl); (case h => (repeat (first | exact mhd _ | apply List.mem_append_right))); (case hd => (repeat (first | with_reducible exact dt_nil | apply dt_here))); (case hn => rfl))); (case hd => rfl)) | fail)
  refine v_cut (fun σ1 G' μ' => GH.le G1 G' ∧ ∃ v ν, EnvHas σ1 [(3, v), (1, .pointer (some ⟨hb, 0, none⟩))] ∧ GrowR G' v (part2 H) ν ∧ List.Sublist (ν ++ [(hb, hardO (hdL H.pr H.pn H.base (.slice A0 H.image.length c0) (.slice A1 H.acc.length c1) (.slice A2 H.cho.length c2)))]) μ') ?_ ?_
  · intro hcut
    refine v_cond rfl (fun h => ?_) (fun h => ?_)
    · have h' : ¬ (H.pr = 0 ∧ H.pn = 0) := fun hh => by rw [dec_pos hh] at h; cases h
      have e2 : part2 H = part1 H ++ [promRec H.pr H.pn] := by unfold part2; rw [if_neg h']
      have hio := hp2o _ (by rw [e2]; exact List.mem_append_right _ (List.mem_singleton.2 rfl))
      obtain ⟨css, hcl, hcr, hgr⟩ := id hg1
      repeat' (first | (refine hcut _ _ _ ?_; exact ⟨GH.le_refl _, _, _, ⟨rfl, rfl, trivial⟩, by rw [e2]; exact GrowR.snoc hcl hcr (by assumption) (rcR_nil rfl hio.1 hio.2), (List.Sublist.append_left (by repeat (first | exact List.Sublist.refl _ | apply List.Sublist.cons)) _)⟩) | apply v_region | apply v_nil | (apply v_pure; (case hop => first | (apply p_move <;> rfl) | (apply p_assign <;> rfl) | (apply p_fieldAddrB <;> rfl) | (apply p_build; (case hz => rfl); (case hv => (simp only [List.map_cons, List.map_nil]; repeat (first | with_reducible exact evs_nil | (apply evs_cons; (case h1 => rfl))))); (case hb => (apply bldL; repeat (first | exact bld_nil | (apply bld_cons; (case hpf => rfl); (case hc => rfl); (case hs => rfl); (case hl => rfl); (case ho => ((repeat (first | with_reducible exact ov_nil | apply ov_cons)); done))))))) | fail); (case hd => rfl)) | (apply v_append (hg := hgr) (m' := 1) (us := recL 1 H.pr H.pn 0 zeroC (.slice none 0 0)) (hp := PickA.perm (by repeat (first | exact PickA.here _ | apply PickA.cons))) (hsrc := Src.own (e := 42) (by repeat (exact mhd _)) rfl); (case hzs => rfl); (case hsz => omega); (case hs => rfl); (case hx => rfl); (case hb => omega); (case hb' => simp only [maxLen]; omega); (case hd => rfl); (case h1 => rfl); intro v3 n3 hg3) | (apply v_read; (case hop => (apply r_loadNo; (case hx => rfl); (case h => (repeat (first | exact mhd _ | apply List.mem_append_right))); (case hd => (repeat (first | with_reducible exact dt_nil | apply dt_here))); (case hn => rfl))); (case hd => rfl)) | (apply v_buildSlice; (case hz => rfl); (case hi => rfl); (case hv => (simp only [List.map_cons, List.map_nil]; repeat (first | with_reducible exact evs_nil | (apply evs_cons; (case h1 => rfl))))); (case hp => (apply pk_cons; (case hc => rfl); (case hs => rfl); (case h => (with_reducible exact pk_nil)); (case he => ((repeat (first | with_reducible exact ap_nil | apply ap_cons)); done)))); (case hb => rfl); (case hd => rfl); intro b) | fail)
    · have h' : H.pr = 0 ∧ H.pn = 0 := Decidable.byContradiction fun hh => by rw [dec_neg hh] at h; cases h
      have e2 : part2 H = part1 H := by unfold part2; rw [if_pos h', List.append_nil]
      apply v_skip
      refine hcut _ _ _ ?_
      exact ⟨GH.le_refl _, v1, ν1, ⟨rfl, rfl, trivial⟩, by rw [e2]; exact hg1, List.Sublist.refl _⟩
  rintro σ2 G2 μ2 ⟨hle2, v2, ν2, hE, hg2, hμ⟩
  refine v_drop hμ (v_has hE ?_)
  clear hE hμ
  have hle := GH.le_trans hle1 hle2
  have hcp1' := fun i h => (hcp1 i h).le hle
  have hcp2' := fun i h => (hcp2 i h).le hle
  clear hcp1 hcp2
  repeat' (first | apply v_seq | apply v_region | apply v_nil | apply v_block | (apply v_pure; (case hop => first | (apply p_move <;> rfl) | (apply p_lenSlice <;> rfl) | (apply p_fieldAddrB <;> rfl) | fail); (case hd => rfl)) | (apply v_read; (case hop => (apply r_load1; rfl; (apply Cell.own; (case h => (repeat (first | exact mhd _ | apply List.mem_append_right))); rfl))); (case hd => rfl)) | fail)
  refine v_loop [33, 3, 31, 32, 1] (fun us G' μ' => G' = G2 ∧ ∃ k v ν, k ≤ H.acc.length ∧ us = [Value.int .i64 (k : Nat), v, .slice A1 H.acc.length c1, .int .i64 (H.acc.length : Nat), .pointer (some ⟨hb, 0, none⟩)] ∧ GrowR G2 v (part2 H ++ (H.acc.take k).map accRec) ν ∧ μ' = ν ++ [(hb, hardO (hdL H.pr H.pn H.base (.slice A0 H.image.length c0) (.slice A1 H.acc.length c1) (.slice A2 H.cho.length c2)))]) (fun us => H.acc.length - (headI us).toNat) rfl ⟨rfl, 0, v2, ν2, by omega, rfl, by simpa using hg2, rfl⟩ ?_
  rintro us G' _ ⟨rfl, k, v, ν, hk, rfl, hgk, rfl⟩
  by_cases hlt : k < H.acc.length
  · have e1 : ((k : Nat) : Int).toNat = k := by omega
    have kc := hcp1' k hlt
    have hA := hs1 (by omega)
    have htk : part2 H ++ (H.acc.take (k + 1)).map accRec = (part2 H ++ (H.acc.take k).map accRec) ++ [accRec H.acc[k]] := by
      rw [List.take_succ_eq_append_getElem hlt, List.map_append, ← List.append_assoc]
      rfl
    have hio := hrok (accRec H.acc[k]) (by
      simp only [List.mem_append, List.mem_map]
      exact .inl (.inr ⟨_, List.getElem_mem hlt, rfl⟩))
    have hln : (part2 H ++ (H.acc.take k).map accRec).length ≤ 100 := by
      rw [List.length_append, List.length_map, List.length_take]
      omega
    obtain ⟨css, hcl, hcr, hgr⟩ := id hgk
    generalize hxe : H.acc[k] = e at *
    generalize part2 H ++ (H.acc.take k).map accRec = l0 at *
    repeat' (first | apply v_seq | apply v_region | apply v_nil | apply v_skip | apply v_block | apply v_blk | (apply v_pure; (case hop => first | (apply p_move <;> rfl) | (apply p_lt <;> rfl) | (apply p_assign <;> rfl) | (apply p_fieldAddrB <;> rfl) | (apply p_add; (case hx => rfl); (case hy => rfl); (case h => omega)) | (apply p_indexAddrS; (case hx => rfl); (case hi => rfl); (case h0 => omega); (case h => omega); (case hA => assumption)) | (apply p_build; (case hz => rfl); (case hv => (simp only [List.map_cons, List.map_nil]; repeat (first | with_reducible exact evs_nil | (apply evs_cons; (case h1 => rfl))))); (case hb => (apply bldL; repeat (first | exact bld_nil | (apply bld_cons; (case hpf => rfl); (case hc => rfl); (case hs => rfl); (case hl => rfl); (case ho => ((repeat (first | with_reducible exact ov_nil | apply ov_cons)); done))))))) | fail); (case hd => rfl)) | (apply v_cond; (case hc => rfl); all_goals (intro h; (try simp only [reduceCtorEq, zzz] at h); first | (exfalso; omega) | skip)) | (apply v_read; (case hop => (apply r_loadN; rfl; exact CellsAt.frozen kc; rfl)); (case hd => rfl)) | (apply v_append (hg := hgr) (m' := 1) (us := recL 2 e.round e.node e.index e.cmd (.slice none 0 0)) (hp := PickA.perm (by repeat (first | exact PickA.here _ | apply PickA.cons))) (hsrc := Src.own (e := 42) (by repeat (exact mhd _)) rfl); (case hzs => rfl); (case hsz => omega); (case hs => rfl); (case hx => rfl); (case hb => omega); (case hb' => simp only [maxLen]; omega); (case hd => rfl); (case h1 => rfl); intro v3 n3 hg3) | (apply v_read; (case hop => first | (apply r_loadNo; (case hx => rfl); (case h => (repeat (exact mhd _))); (case hd => (repeat (first | with_reducible exact dt_nil | apply dt_here))); (case hn => rfl)) | (apply r_load1; rfl; (apply Cell.own; (case h => (repeat (exact mhd _))); rfl)) | fail); (case hd => rfl)) | (apply v_buildSlice; (case hz => rfl); (case hi => rfl); (case hv => (simp only [List.map_cons, List.map_nil]; repeat (first | with_reducible exact evs_nil | (apply evs_cons; (case h1 => rfl))))); (case hp => (apply pk_cons; (case hc => rfl); (case hs => rfl); (case h => (with_reducible exact pk_nil)); (case he => ((repeat (first | with_reducible exact ap_nil | apply ap_cons)); done)))); (case hb => rfl); (case hd => rfl); intro b) | (apply v_alloc; (case hz => rfl); (case hd => rfl); intro b) | (apply v_store; (case hp => rfl); (case hx => rfl); (case hc => rfl); (case hsz => rfl); (case h1 => rfl); (case hb => (repeat (exact mhd _))); (case hfit => exact nle rfl); (case hov => ((repeat (first | with_reducible exact ov_nil | apply ov_cons)); done)); (case hu => repeat (first | exact Upd.here _ _ | fail))) | fail)
    refine v_drop (ν := n3 ++ [(hb, hardO (hdL H.pr H.pn H.base (.slice A0 H.image.length c0) (.slice A1 H.acc.length c1) (.slice A2 H.cho.length c2)))]) (List.Sublist.append_left (by repeat (first | exact List.Sublist.refl _ | apply List.Sublist.cons)) _) ?_
    refine v_again rfl ⟨rfl, k + 1, v3, n3, by omega, rfl, ?_, rfl⟩ (by simp [headI]; omega)
    rw [htk]
    exact GrowR.snoc hcl hcr hg3 (rcR_nil rfl hio.1 hio.2)
  · have htk : part2 H ++ (H.acc.take k).map accRec = part2 H ++ H.acc.map accRec := by rw [List.take_of_length_le (by omega)]
    rw [htk] at hgk
    repeat' (first | apply v_seq | apply v_region | apply v_nil | apply v_block | (apply v_exit; (case hp => rfl)) | (apply v_pure; (case hop => first | (apply p_move <;> rfl) | (apply p_lt <;> rfl) | (apply p_lenSlice <;> rfl) | (apply p_fieldAddrB <;> rfl) | fail); (case hd => rfl)) | (apply v_cond; (case hc => rfl); all_goals (intro h; (try simp only [reduceCtorEq, zzz] at h); first | (exfalso; omega) | skip)) | (apply v_read; (case hop => (apply r_load1; rfl; (apply Cell.own; (case h => (repeat (first | exact mhd _ | apply List.mem_append_right))); rfl))); (case hd => rfl)) | fail)
    clear htk hk hlt
    refine v_loop [51, 3, 49, 50, 1] (fun us G2 μ' => G2 = G' ∧ ∃ k v ν, k ≤ H.cho.length ∧ us = [Value.int .i64 (k : Nat), v, .slice A2 H.cho.length c2, .int .i64 (H.cho.length : Nat), .pointer (some ⟨hb, 0, none⟩)] ∧ GrowR G' v (part2 H ++ H.acc.map accRec ++ (H.cho.take k).map choRec) ν ∧ μ' = ν ++ [(hb, hardO (hdL H.pr H.pn H.base (.slice A0 H.image.length c0) (.slice A1 H.acc.length c1) (.slice A2 H.cho.length c2)))]) (fun us => H.cho.length - (headI us).toNat) rfl ⟨rfl, 0, v, ν, by omega, rfl, by simpa using hgk, rfl⟩ ?_
    rintro us _ _ ⟨rfl, k, v, ν, hk, rfl, hgk, rfl⟩
    by_cases hlt : k < H.cho.length
    · have e1 : ((k : Nat) : Int).toNat = k := by omega
      have kc := hcp2' k hlt
      have hA := hs2 (by omega)
      have htk : part2 H ++ H.acc.map accRec ++ (H.cho.take (k + 1)).map choRec = (part2 H ++ H.acc.map accRec ++ (H.cho.take k).map choRec) ++ [choRec H.cho[k]] := by
        rw [List.take_succ_eq_append_getElem hlt, List.map_append, ← List.append_assoc]
        rfl
      have hio := hrok (choRec H.cho[k]) (by
        simp only [List.mem_append, List.mem_map]
        exact .inr ⟨_, List.getElem_mem hlt, rfl⟩)
      have hln : (part2 H ++ H.acc.map accRec ++ (H.cho.take k).map choRec).length ≤ 100 := by
        rw [List.length_append, List.length_append, List.length_map, List.length_map, List.length_take]
        omega
      obtain ⟨css, hcl, hcr, hgr⟩ := id hgk
      generalize hxe : H.cho[k] = e at *
      generalize part2 H ++ H.acc.map accRec ++ (H.cho.take k).map choRec = l0 at *
      repeat' (first | apply v_seq | apply v_region | apply v_nil | apply v_skip | apply v_block | apply v_blk | (apply v_pure; (case hop => first | (apply p_move <;> rfl) | (apply p_lt <;> rfl) | (apply p_assign <;> rfl) | (apply p_fieldAddrB <;> rfl) | (apply p_add; (case hx => rfl); (case hy => rfl); (case h => omega)) | (apply p_indexAddrS; (case hx => rfl); (case hi => rfl); (case h0 => omega); (case h => omega); (case hA => assumption)) | (apply p_build; (case hz => rfl); (case hv => (simp only [List.map_cons, List.map_nil]; repeat (first | with_reducible exact evs_nil | (apply evs_cons; (case h1 => rfl))))); (case hb => (apply bldL; repeat (first | exact bld_nil | (apply bld_cons; (case hpf => rfl); (case hc => rfl); (case hs => rfl); (case hl => rfl); (case ho => ((repeat (first | with_reducible exact ov_nil | apply ov_cons)); done))))))) | fail); (case hd => rfl)) | (apply v_cond; (case hc => rfl); all_goals (intro h; (try simp only [reduceCtorEq, zzz] at h); first | (exfalso; omega) | skip)) | (apply v_read; (case hop => (apply r_loadN; rfl; exact CellsAt.frozen kc; rfl)); (case hd => rfl)) | (apply v_append (hg := hgr) (m' := 1) (us := recL 3 0 0 e.index e.cmd (.slice none 0 0)) (hp := PickA.perm (by repeat (first | exact PickA.here _ | apply PickA.cons))) (hsrc := Src.own (e := 42) (by repeat (exact mhd _)) rfl); (case hzs => rfl); (case hsz => omega); (case hs => rfl); (case hx => rfl); (case hb => omega); (case hb' => simp only [maxLen]; omega); (case hd => rfl); (case h1 => rfl); intro v3 n3 hg3) | (apply v_read; (case hop => first | (apply r_loadNo; (case hx => rfl); (case h => (repeat (exact mhd _))); (case hd => (repeat (first | with_reducible exact dt_nil | apply dt_here))); (case hn => rfl)) | (apply r_load1; rfl; (apply Cell.own; (case h => (repeat (exact mhd _))); rfl)) | fail); (case hd => rfl)) | (apply v_buildSlice; (case hz => rfl); (case hi => rfl); (case hv => (simp only [List.map_cons, List.map_nil]; repeat (first | with_reducible exact evs_nil | (apply evs_cons; (case h1 => rfl))))); (case hp => (apply pk_cons; (case hc => rfl); (case hs => rfl); (case h => (with_reducible exact pk_nil)); (case he => ((repeat (first | with_reducible exact ap_nil | apply ap_cons)); done)))); (case hb => rfl); (case hd => rfl); intro b) | (apply v_alloc; (case hz => rfl); (case hd => rfl); intro b) | (apply v_store; (case hp => rfl); (case hx => rfl); (case hc => rfl); (case hsz => rfl); (case h1 => rfl); (case hb => (repeat (exact mhd _))); (case hfit => exact nle rfl); (case hov => ((repeat (first | with_reducible exact ov_nil | apply ov_cons)); done)); (case hu => repeat (first | exact Upd.here _ _ | fail))) | fail)
      refine v_drop (ν := n3 ++ [(hb, hardO (hdL H.pr H.pn H.base (.slice A0 H.image.length c0) (.slice A1 H.acc.length c1) (.slice A2 H.cho.length c2)))]) (List.Sublist.append_left (by repeat (first | exact List.Sublist.refl _ | apply List.Sublist.cons)) _) ?_
      refine v_again rfl ⟨rfl, k + 1, v3, n3, by omega, rfl, ?_, rfl⟩ (by simp [headI]; omega)
      rw [htk]
      exact GrowR.snoc hcl hcr hg3 (rcR_nil rfl hio.1 hio.2)
    · have htk : part2 H ++ H.acc.map accRec ++ (H.cho.take k).map choRec = part2 H ++ H.acc.map accRec ++ H.cho.map choRec := by rw [List.take_of_length_le (by omega)]
      rw [htk] at hgk
      repeat' (first | apply v_seq | apply v_region | apply v_nil | (apply v_exit; (case hp => rfl)) | (apply v_pure; (case hop => first | (apply p_move <;> rfl) | (apply p_lt <;> rfl) | (apply p_assign <;> rfl) | fail); (case hd => rfl)) | (apply v_cond; (case hc => rfl); all_goals (intro h; (try simp only [reduceCtorEq, zzz] at h); first | (exfalso; omega) | skip)) | fail)
      refine v_frz ν (by repeat (exact PickA.here _)) ?_
      intro G3 hle3 hG3
      refine v_ret [] (outsA1 rfl rfl) (by repeat (exact List.nil_sublist _)) ?_
      exact ⟨rfl, hgk.rs hle3 hG3⟩
end Go.Proofs.YtpemabgfmnhhnaaGreatDoor
