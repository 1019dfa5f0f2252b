/-
  kvtwo (layer 24): a command done on pairs with revisions.
-/
import Derived.Test.YtgflmkhfachlcaaGreatDoorM3
import Derived.Test.YtgflmkhfachlcaaGreatDoorM2
set_option linter.unusedSimpArgs false
set_option linter.unusedVariables false
namespace Go.Proofs.YtgflmkhfachlcaaGreatDoor
open Go.Vx Go.ChangeShapes Go.WideShapes Go.ChangeAt Go.RowKit
def nextR (r : Int) : Int := min r 4294967295 + 1
theorem nextR_s (G : GH) (r : Int) (h : 0 ≤ r) : Con Tryz.prog 95 #[.int .i64 r] G [] (Just (.int .i64 (nextR r)) G) := by
  apply Con.just
  (refine v_enter Tryz.func95 rfl Tryz.ntmps95 rfl ?_; intro B _)
  repeat' (first | apply v_seq | apply v_region | apply v_nil | (apply v_pure; (case hop => first | (apply p_move <;> rfl) | (apply p_assign <;> rfl) | (apply p_add; (case hx => rfl); (case hy => rfl); (case h => omega)) | (apply p_min <;> rfl)); (case hd => rfl)) | fail)
  refine v_ret [] (outsA1 rfl rfl) (by repeat (first | exact List.Sublist.refl _ | fail)) ?_
  exact ⟨rfl, rfl⟩
theorem lendSearch2 {G : GH} {l : List Pr} {v : Value} {ν : OH} (y : Pr) (hg : GrP v l ν) (hr : RiseG ksP l) (hz : Sized l) (hk : y.key.size ≤ 200) : Con Tryz.prog 103 #[v, .agg y.cells.toArray, .func (.func 104) #[] #[]] G ν (Keeps (.tuple [.int .i64 (placeG ksP l (kn y.key) : Nat), .bool (hitG ksP l (kn y.key))].toArray) G ν) :=
  Con.lendJ fun G' _ h2 => prSearch2_s y (row_of_grow Pr.len hg h2) hr (fun x hx => (hz x hx).1) hk
theorem set_s {G : GH} {l : List Pr} {v : Value} {ν : OH} (p : Pr) (hg : GrP v l ν) (hr : RiseW ksP l) (hz : Sized l) (hk : p.key.size ≤ 200) (hn : l.length ≤ 200) : Con Tryz.prog 94 #[v, .agg p.cells.toArray] G ν (fun r G' μ' => G' = G ∧ GrP r (withG ksP l p) μ') := by
  have hrg := riseG_pw.2 hr
  have qp := lendSearch2 (G := G) p hg hrg hz hk
  have hpl := placeG_le ksP l (kn p.key)
  have hw := ins_with hr p
  rw [← hw]
  cases hh : hitG ksP l (kn p.key) with
  | true =>
    have hlt := hitG_lt hh
    rw [if_pos rfl]
    rw [hh] at qp
    obtain ⟨hxl, ⟨rfl, h0, rfl⟩ | ⟨b, cap, spare, rfl, rfl, hc1, hc2, hc3⟩⟩ := hg
    · omega
    have hov := rowC_set Pr.len l _ hlt p spare
    clear hw
    generalize placeG ksP l (kn p.key) = i at *
    have hlen := rowC_length Pr.len l
    (refine v_enter Tryz.func94 rfl Tryz.ntmps94 rfl ?_; intro B _)
    repeat' (first | (apply v_box (zs := p.cells); (case hx => rfl); (case hz => rfl); (case hd => rfl); intro bp) | (apply v_pure; (case hop => apply p_idxOwn2; (case hx => rfl); (case hi => rfl); (case h => omega)); (case hd => rfl)) | apply v_seq | apply v_region | apply v_nil | apply v_skip | (apply v_pure; (case hop => first | (apply p_move <;> rfl) | (apply p_assign <;> rfl) | (apply p_not <;> rfl) | (apply p_extract0 <;> rfl) | (apply p_extract1 <;> rfl) | fail); (case hd => rfl)) | (apply v_condF; (case hc => rfl)) | (apply v_callK (hs := qp) (μ2 := [(bp, .cells p.cells.toArray 65 (0, 0))]); (case ha => rfl); (case hp => exact List.Perm.swap _ _ _); (case hd => rfl)) | (apply v_store (us := p.cells); (case hp => rfl); (case hx => rfl); (case hc => rfl); (case hsz => rfl); (case h1 => rfl); (case hb => (repeat (first | exact List.Mem.head _ | apply List.Mem.tail))); (case hfit => rw [List.length_append, hlen, Pr.len]; omega); (case hov => exact hov); (case hu => (repeat (first | exact Upd.here _ _ | apply Upd.there)))) | (apply v_read; (case hop => first | (apply r_loadNo; (case hx => rfl); (case h => (repeat (first | exact List.Mem.head _ | fail))); (case hd => (repeat (first | with_reducible exact dt_nil | apply dt_here | fail))); (case hn => rfl)) | fail); (case hd => rfl)) | fail)
    refine v_ret [(b, _)] (outsA1 rfl rfl) (List.Sublist.cons _ (List.Sublist.refl _)) ⟨rfl, ?_⟩
    have hsl : (l.set i p).length = l.length := List.length_set ..
    unfold GrP
    simp only [hsl]
    exact ⟨by rw [rowC_length Pr.len, hsl], .inr ⟨b, cap, spare, rfl, rfl, hc1, hc2, by rw [List.length_append, rowC_length Pr.len, hsl]; rw [List.length_append, hlen] at hc3; exact hc3⟩⟩
  | false =>
    rw [hh] at qp
    rw [if_neg (by simp)]
    obtain ⟨A, c, rfl, hA1, hA2⟩ := hg.shape
    simp only [maxLen] at hA2
    have hq := fun b2 => prInsert_s (G := G) p b2 (placeG ksP l (kn p.key)) hg hpl hn
    have hil : (l.take (placeG ksP l (kn p.key)) ++ p :: l.drop (placeG ksP l (kn p.key))).length = l.length + 1 := by
      rw [List.length_append, List.length_cons, List.length_take, List.length_drop]; omega
    clear hw
    generalize placeG ksP l (kn p.key) = i at *
    (refine v_enter Tryz.func94 rfl Tryz.ntmps94 rfl ?_; intro B _)
    repeat' (first | (apply v_box (zs := p.cells); (case hx => rfl); (case hz => rfl); (case hd => rfl); intro bp) | apply v_seq | apply v_region | apply v_nil | (apply v_pure; (case hop => first | (apply p_move <;> rfl) | (apply p_assign <;> rfl) | (apply p_not <;> rfl) | (apply p_extract0 <;> rfl) | (apply p_extract1 <;> rfl) | fail); (case hd => rfl)) | (apply v_condT; (case hc => rfl)) | (apply v_callK (hs := qp) (μ2 := [(bp, .cells p.cells.toArray 65 (0, 0))]); (case ha => rfl); (case hp => exact (List.perm_append_comm (l₁ := [_]))); (case hd => rfl)) | (apply v_read; (case hop => first | (apply r_loadNo; (case hx => rfl); (case h => (repeat (first | exact List.Mem.head _ | fail))); (case hd => (repeat (first | with_reducible exact dt_nil | apply dt_here | fail))); (case hn => rfl)) | fail); (case hd => rfl)) | (apply v_buildSlice; (case hz => rfl); (case hi => rfl); (case hv => (simp only [List.map_cons, List.map_nil]; repeat (first | with_reducible exact evs_nil | (apply evs_cons; (case h1 => rfl))))); (case hp => (first | (apply pk_cons; (case hc => rfl); (case hs => rfl); (case h => (first | with_reducible exact pk_nil | fail)); (case he => (first | ((repeat (first | with_reducible exact ap_nil | apply ap_cons)); done) | fail))) | fail)); (case hb => rfl); (case hd => rfl); intro b) | fail)
    refine v_call (μ1 := ν ++ [(b, .cells p.cells.toArray 65 (0, 0))]) (μ2 := [(bp, .cells p.cells.toArray 65 (0, 0))]) rfl (hq b) ?_ rfl ?_
    · exact (by apply perm_of_count; intro p; simp only [List.append_eq, List.countP_append, List.countP_cons, List.countP_nil, Nat.zero_add, Nat.add_zero]; try ac_rfl)
    rintro v' G1 ν1 - ⟨hG1, hg1⟩
    subst hG1
    repeat' (first | apply v_nil | (apply v_pure; (case hop => first | (apply p_assign <;> rfl) | fail); (case hd => rfl)) | fail)
    refine v_ret ν1 (outsA1 rfl rfl) (List.sublist_append_left _ _) ⟨rfl, ?_⟩
    unfold GrP
    rw [hil]
    exact hg1
theorem lendFind {G : GH} {l : List Pr} {v : Value} {ν : OH} (k : ByteArray) (hg : GrP v l ν) (hr : RiseG ksP l) (hz : Sized l) (hk : k.size ≤ 200) : Con Tryz.prog 90 #[v, .string k] G ν (Keeps (.tuple [.agg (findP l (kn k)).cells.toArray, .bool (hitG ksP l (kn k))].toArray) G ν) :=
  Con.lendJ fun G' _ h2 => find_s k (row_of_grow Pr.len hg h2) hr hz hk
theorem findP_rev {l : List Pr} (h : ∀ x ∈ l, 0 ≤ x.rev) (n : Int) : 0 ≤ (findP l n).rev := by
  unfold findP
  split
  · exact h _ (List.getElem_mem _)
  · exact Int.le_refl _
noncomputable def casP (l : List Pr) (c : Cm) : List Pr × An :=
  if hitG ksP l (kn c.key) = false then (l, { ans0 c with err := 10 })
  else if (findP l (kn c.key)).val = c.old then (withG ksP l ⟨c.key, c.val, nextR (findP l (kn c.key)).rev⟩, { ans0 c with found := true, val := (findP l (kn c.key)).val, rev := nextR (findP l (kn c.key)).rev })
  else (l, { ans0 c with err := 15, found := true, val := (findP l (kn c.key)).val, rev := (findP l (kn c.key)).rev })
theorem cas_s {G : GH} {l : List Pr} {v : Value} {ν : OH} (c : Cm) (hg : GrP v l ν) (hr : RiseW ksP l) (hz : Sized l) (hk : c.key.size ≤ 200) (hn : l.length ≤ 200) (hrev : ∀ x ∈ l, 0 ≤ x.rev) :
    Con Tryz.prog 93 #[v, .agg c.cells.toArray] G ν (fun r G' μ' => G' = G ∧ ∃ v', r = .tuple [v', .agg (casP l c).2.cells.toArray].toArray ∧ GrP v' (casP l c).1 μ') := by
  have hrg := riseG_pw.2 hr
  have q2 := lendFind (G := G) c.key hg hrg hz hk
  have hfr := findP_rev hrev (kn c.key)
  have qn := nextR_s G _ hfr
  unfold casP
  generalize findP l (kn c.key) = f at *
  have q3 := set_s (G := G) ⟨c.key, c.val, nextR f.rev⟩ hg hr hz hk hn
  generalize hitG ksP l (kn c.key) = hb at *
  generalize withG ksP l ⟨c.key, c.val, nextR f.rev⟩ = lw at *
  generalize nextR f.rev = nr at *
  obtain ⟨kind, client, seq, key, val, old, node⟩ := c
  simp only at *
  have eb : dec (f.val = old) = decide (f.val = old) := dec_eq
  (refine v_enter Tryz.func93 rfl Tryz.ntmps93 rfl ?_; intro B _)
  cases hb with
  | false =>
    rw [if_pos rfl]
    repeat' (first | (apply v_box (zs := Cm.cells ⟨kind, client, seq, key, val, old, node⟩); (case hx => rfl); (case hz => rfl); (case hd => rfl); intro bc) | (apply v_alloc (d := 5); (case hz => rfl); (case hd => rfl); intro b5) | (apply v_alloc (d := 6); (case hz => rfl); (case hd => rfl); intro b7) | (apply v_alloc (d := 7); (case hz => rfl); (case hd => rfl); intro b8) | apply v_seq | apply v_region | apply v_nil | (apply v_pure; (case hop => first | (apply p_move <;> rfl) | (apply p_assign <;> rfl) | (apply p_not <;> rfl) | (apply p_fieldAddrB <;> rfl) | (apply p_extract0 <;> rfl) | (apply p_extract1 <;> rfl) | (apply p_build; (case hz => rfl); (case hv => (simp only [List.map_cons, List.map_nil]; repeat (first | with_reducible exact evs_nil | (apply evs_cons; (case h1 => rfl))))); (case hb => (apply bldL; repeat (first | exact bld_nil | (apply bld_cons; (case hpf => rfl); (case hc => rfl); (case hs => rfl); (case hl => rfl); (case ho => (first | ((repeat (first | with_reducible exact ov_nil | apply ov_cons | fail)); done) | fail))))))) | fail); (case hd => rfl)) | (apply v_condT; (case hc => rfl)) | (apply v_callK (hs := q2) (μ2 := [(b7, .cells [.int .i64 client, .int .i64 seq, .int .i64 0, .bool false, .string ByteArray.empty, .int .i64 0].toArray 42 (0, 0)), (b5, .cells [.int .i64 0, .int .i64 0, .int .i64 0, .bool false, .string ByteArray.empty, .int .i64 0].toArray 42 (0, 0)), (bc, .cells (Cm.cells ⟨kind, client, seq, key, val, old, node⟩).toArray 38 (0, 0))]); (case ha => rfl); (case hp => exact (by apply perm_of_count; intro p; simp only [List.append_eq, List.countP_append, List.countP_cons, List.countP_nil, Nat.zero_add, Nat.add_zero]; try ac_rfl)); (case hd => rfl)) | (apply v_read; (case hop => first | (apply r_load1; rfl; (apply Cell.own; (case h => (repeat (first | exact List.Mem.head _ | apply List.Mem.tail | fail))); rfl)) | fail); (case hd => rfl)) | (apply v_store; (case hp => rfl); (case hx => rfl); (case hc => rfl); (case hsz => rfl); (case h1 => rfl); (case hb => (repeat (first | exact List.Mem.head _ | apply List.Mem.tail | fail))); (case hfit => first | exact Nat.le_of_ble_eq_true rfl | fail); (case hov => (first | ((repeat (first | with_reducible exact ov_nil | apply ov_cons | fail)); done) | fail)); (case hu => repeat (first | exact Upd.here _ _ | apply Upd.there | fail))) | fail)
    refine d_start [(b7, .cells [.int .i64 client, .int .i64 seq, .int .i64 10, .bool false, .string ByteArray.empty, .int .i64 0].toArray 42 (0, 0))] (by kernel_rfl) (by kernel_rfl) (by kernel_rfl) (by intro e he; first | (simp at he; simp [he]; done) | fail) ?_
    all_goals (first | (apply d_take 0; (case hi => rfl); (case hop => first | (apply PureOp.read; apply p_move <;> rfl)); (case hf => kernel_rfl); (case hr => kernel_rfl); (case hd => rfl)) | fail)
    all_goals (first | (apply d_take 1; (case hi => rfl); (case hop => first   | (apply r_loadNo; (case hx => rfl); (case h => (repeat (first | exact List.Mem.head _ | fail))); (case hd => (repeat (first | with_reducible exact dt_nil | apply dt_here | fail))); (case hn => rfl)) | (apply r_load1; rfl; (apply Cell.own; (case h => (repeat (fail))); rfl)) | (apply r_loadN; rfl; (apply CellsAt.own; (case h => (repeat (fail)))); rfl)); (case hf => kernel_rfl); (case hr => kernel_rfl); (case hd => rfl)) | fail)
    all_goals (first | (apply d_take 2; (case hi => rfl); (case hop => first | (apply PureOp.read; apply p_assign <;> rfl)); (case hf => kernel_rfl); (case hr => kernel_rfl); (case hd => rfl)) | fail)
    all_goals (first | (apply d_store 3; (case hi => rfl); (case hr => kernel_rfl); (case hL => infer_instance); (case hp => rfl); (case hx => rfl); (case hc => rfl); (case hsz => rfl); (case h1 => rfl); (case hb => (repeat (first | exact List.Mem.head _ | apply List.Mem.tail | fail))); (case hfit => first | exact Nat.le_of_ble_eq_true rfl | fail); (case hov => (first | ((repeat (first | with_reducible exact ov_nil | apply ov_cons | fail)); done) | fail)); (case hu => repeat (first | exact Upd.here _ _ | apply Upd.there | fail)); (case hν' => intro e he; first | (simp at he; simp [he]; done) | fail)) | fail)
    all_goals (apply d_done; (case hr => kernel_rfl))
    repeat' (fail)
    refine v_retM ν (outsM_tc (sz1 := 6) (vs1 := [.int .i64 client, .int .i64 seq, .int .i64 10, .bool false, .string ByteArray.empty, .int .i64 0]) (e1 := 42) rfl rfl rfl (by repeat (first | exact List.Mem.head _ | apply List.Mem.tail | fail)) rfl) (List.Sublist.cons _ (List.Sublist.cons _ (List.Sublist.cons _ (List.Sublist.cons _ (List.Sublist.refl _))))) ⟨rfl, _, rfl, hg⟩
  | true =>
    rw [if_neg (by simp)]
    repeat' (first | (apply v_box (zs := Cm.cells ⟨kind, client, seq, key, val, old, node⟩); (case hx => rfl); (case hz => rfl); (case hd => rfl); intro bc) | (apply v_alloc (d := 5); (case hz => rfl); (case hd => rfl); intro b5) | (apply v_alloc (d := 6); (case hz => rfl); (case hd => rfl); intro b7) | (apply v_alloc (d := 7); (case hz => rfl); (case hd => rfl); intro b8) | apply v_seq | apply v_region | apply v_nil | apply v_skip | (apply v_pure; (case hop => first | (apply p_move <;> rfl) | (apply p_assign <;> rfl) | (apply p_not <;> rfl) | (apply p_fieldAddrB <;> rfl) | (apply p_extract0 <;> rfl) | (apply p_extract1 <;> rfl) | (apply p_build; (case hz => rfl); (case hv => (simp only [List.map_cons, List.map_nil]; repeat (first | with_reducible exact evs_nil | (apply evs_cons; (case h1 => rfl))))); (case hb => (apply bldL; repeat (first | exact bld_nil | (apply bld_cons; (case hpf => rfl); (case hc => rfl); (case hs => rfl); (case hl => rfl); (case ho => (first | ((repeat (first | with_reducible exact ov_nil | apply ov_cons | fail)); done) | fail))))))) | fail); (case hd => rfl)) | (apply v_condF; (case hc => rfl)) | (apply v_callK (hs := q2) (μ2 := [(b7, .cells [.int .i64 client, .int .i64 seq, .int .i64 0, .bool false, .string ByteArray.empty, .int .i64 0].toArray 42 (0, 0)), (b5, .cells [.int .i64 0, .int .i64 0, .int .i64 0, .bool false, .string ByteArray.empty, .int .i64 0].toArray 42 (0, 0)), (bc, .cells (Cm.cells ⟨kind, client, seq, key, val, old, node⟩).toArray 38 (0, 0))]); (case ha => rfl); (case hp => exact (by apply perm_of_count; intro p; simp only [List.append_eq, List.countP_append, List.countP_cons, List.countP_nil, Nat.zero_add, Nat.add_zero]; try ac_rfl)); (case hd => rfl)) | (apply v_read; (case hop => first | (apply r_load1; rfl; (apply Cell.own; (case h => (repeat (first | exact List.Mem.head _ | apply List.Mem.tail | fail))); rfl)) | fail); (case hd => rfl)) | (apply v_store; (case hp => rfl); (case hx => rfl); (case hc => rfl); (case hsz => rfl); (case h1 => rfl); (case hb => (repeat (first | exact List.Mem.head _ | fail))); (case hfit => first | exact Nat.le_of_ble_eq_true rfl | fail); (case hov => (first | ((repeat (first | with_reducible exact ov_nil | apply ov_cons | fail)); done) | fail)); (case hu => repeat (first | exact Upd.here _ _ | fail))) | fail)
    refine d_start [(b8, .cells [.string f.key, .string f.val, .int .i64 f.rev].toArray 65 (0, 0))] (by kernel_rfl) (by kernel_rfl) (by kernel_rfl) (by intro e he; first | (simp at he; simp [he]; done) | fail) ?_
    all_goals (first | (apply d_take 0; (case hi => rfl); (case hop => first | (apply PureOp.read; apply p_fieldAddrB <;> rfl) | fail); (case hf => kernel_rfl); (case hr => kernel_rfl); (case hd => rfl)) | fail)
    all_goals (first | (apply d_take 1; (case hi => rfl); (case hop => first   | (apply r_loadNo; (case hx => rfl); (case h => (repeat (fail))); (case hd => (repeat (fail))); (case hn => rfl)) | (apply r_load1; rfl; (apply Cell.own; (case h => (repeat (first | exact List.Mem.head _ | fail))); rfl)) | (apply r_loadN; rfl; (apply CellsAt.own; (case h => (repeat (fail)))); rfl)); (case hf => kernel_rfl); (case hr => kernel_rfl); (case hd => rfl)) | fail)
    all_goals (first | (apply d_take 2; (case hi => rfl); (case hop => first | (apply PureOp.read; apply p_fieldAddrB <;> rfl) | fail); (case hf => kernel_rfl); (case hr => kernel_rfl); (case hd => rfl)) | fail)
    all_goals (first | (apply d_take 3; (case hi => rfl); (case hop => first   | (apply r_loadNo; (case hx => rfl); (case h => (repeat (fail))); (case hd => (repeat (fail))); (case hn => rfl)) | (apply r_load1; rfl; (apply Cell.own; (case h => (repeat (first | exact List.Mem.head _ | fail))); rfl)) | (apply r_loadN; rfl; (apply CellsAt.own; (case h => (repeat (fail)))); rfl)); (case hf => kernel_rfl); (case hr => kernel_rfl); (case hd => rfl)) | fail)
    all_goals (first | (apply d_take 4; (case hi => rfl); (case hop => first | (apply PureOp.read; apply p_fieldAddrB <;> rfl) | fail); (case hf => kernel_rfl); (case hr => kernel_rfl); (case hd => rfl)) | fail)
    all_goals (first | (apply d_store 5; (case hi => rfl); (case hr => kernel_rfl); (case hL => infer_instance); (case hp => rfl); (case hx => rfl); (case hc => rfl); (case hsz => rfl); (case h1 => rfl); (case hb => (repeat (first | exact List.Mem.head _ | apply List.Mem.tail | fail))); (case hfit => first | exact Nat.le_of_ble_eq_true rfl | fail); (case hov => (first | ((repeat (first | with_reducible exact ov_nil | apply ov_cons | fail)); done) | fail)); (case hu => repeat (first | exact Upd.here _ _ | apply Upd.there | fail)); (case hν' => intro e he; first | (simp at he; simp [he]; done) | fail)) | fail)
    all_goals (first | (apply d_take 6; (case hi => rfl); (case hop => first | (apply PureOp.read; apply p_fieldAddrB <;> rfl) | fail); (case hf => kernel_rfl); (case hr => kernel_rfl); (case hd => rfl)) | fail)
    all_goals (first | (apply d_store 7; (case hi => rfl); (case hr => kernel_rfl); (case hL => infer_instance); (case hp => rfl); (case hx => rfl); (case hc => rfl); (case hsz => rfl); (case h1 => rfl); (case hb => (repeat (first | exact List.Mem.head _ | apply List.Mem.tail | fail))); (case hfit => first | exact Nat.le_of_ble_eq_true rfl | fail); (case hov => (first | ((repeat (first | with_reducible exact ov_nil | apply ov_cons | fail)); done) | fail)); (case hu => repeat (first | exact Upd.here _ _ | apply Upd.there | fail)); (case hν' => intro e he; first | (simp at he; simp [he]; done) | fail)) | fail)
    all_goals (first | (apply d_take 8; (case hi => rfl); (case hop => first | (apply PureOp.read; apply p_fieldAddrB <;> rfl) | fail); (case hf => kernel_rfl); (case hr => kernel_rfl); (case hd => rfl)) | fail)
    all_goals (first | (apply d_store 9; (case hi => rfl); (case hr => kernel_rfl); (case hL => infer_instance); (case hp => rfl); (case hx => rfl); (case hc => rfl); (case hsz => rfl); (case h1 => rfl); (case hb => (repeat (first | exact List.Mem.head _ | apply List.Mem.tail | fail))); (case hfit => first | exact Nat.le_of_ble_eq_true rfl | fail); (case hov => (first | ((repeat (first | with_reducible exact ov_nil | apply ov_cons | fail)); done) | fail)); (case hu => repeat (first | exact Upd.here _ _ | apply Upd.there | fail)); (case hν' => intro e he; first | (simp at he; simp [he]; done) | fail)) | fail)
    all_goals (apply d_done; (case hr => kernel_rfl))
    repeat' (first | apply v_seq | apply v_region | apply v_nil | apply v_skip | (apply v_pure; (case hop => first | (apply p_fieldAddrB <;> rfl) | (apply p_neS <;> rfl) | fail); (case hd => rfl)) | (apply v_cond; (case hc => rfl); all_goals (intro h; (try simp only [reduceCtorEq, dec_true, dec_false, decide_eq_true_eq, decide_eq_false_iff_not, Bool.not_eq_true', Bool.not_eq_false', Option.isNone_iff_eq_none, beq_true, beq_false, beq_iff_eq, beq_eq_false_iff_ne, ne_eq, decide_eq_decide, Bool.not_eq_true, Bool.not_eq_false, Decidable.not_not] at h); first | skip)) | (apply v_read; (case hop => first | (apply r_load1; rfl; (apply Cell.own; (case h => (repeat (first | exact List.Mem.head _ | apply List.Mem.tail | fail))); rfl)) | fail); (case hd => rfl)) | (apply v_store; (case hp => rfl); (case hx => rfl); (case hc => rfl); (case hsz => rfl); (case h1 => rfl); (case hb => (repeat (first | exact List.Mem.head _ | apply List.Mem.tail | fail))); (case hfit => first | exact Nat.le_of_ble_eq_true rfl | fail); (case hov => (first | ((repeat (first | with_reducible exact ov_nil | apply ov_cons | fail)); done) | fail)); (case hu => repeat (first | exact Upd.here _ _ | apply Upd.there | fail))) | fail)
    · rw [if_neg (by assumption)]
      refine d_start [(b7, .cells [.int .i64 client, .int .i64 seq, .int .i64 15, .bool true, .string f.val, .int .i64 f.rev].toArray 42 (0, 0))] (by kernel_rfl) (by kernel_rfl) (by kernel_rfl) (by intro e he; first | (simp at he; simp [he]; done) | fail) ?_
      all_goals (first | (apply d_take 0; (case hi => rfl); (case hop => first | (apply PureOp.read; apply p_move <;> rfl)); (case hf => kernel_rfl); (case hr => kernel_rfl); (case hd => rfl)) | fail)
      all_goals (first | (apply d_take 1; (case hi => rfl); (case hop => first   | (apply r_loadNo; (case hx => rfl); (case h => (repeat (first | exact List.Mem.head _ | fail))); (case hd => (repeat (first | with_reducible exact dt_nil | apply dt_here | fail))); (case hn => rfl)) | (apply r_load1; rfl; (apply Cell.own; (case h => (repeat (fail))); rfl)) | (apply r_loadN; rfl; (apply CellsAt.own; (case h => (repeat (fail)))); rfl)); (case hf => kernel_rfl); (case hr => kernel_rfl); (case hd => rfl)) | fail)
      all_goals (first | (apply d_take 2; (case hi => rfl); (case hop => first | (apply PureOp.read; apply p_assign <;> rfl)); (case hf => kernel_rfl); (case hr => kernel_rfl); (case hd => rfl)) | fail)
      all_goals (first | (apply d_store 3; (case hi => rfl); (case hr => kernel_rfl); (case hL => infer_instance); (case hp => rfl); (case hx => rfl); (case hc => rfl); (case hsz => rfl); (case h1 => rfl); (case hb => (repeat (first | exact List.Mem.head _ | apply List.Mem.tail | fail))); (case hfit => first | exact Nat.le_of_ble_eq_true rfl | fail); (case hov => (first | ((repeat (first | with_reducible exact ov_nil | apply ov_cons | fail)); done) | fail)); (case hu => repeat (first | exact Upd.here _ _ | apply Upd.there | fail)); (case hν' => intro e he; first | (simp at he; simp [he]; done) | fail)) | fail)
      all_goals (apply d_done; (case hr => kernel_rfl))
      repeat' (fail)
      refine v_retM ν (outsM_tc (sz1 := 6) (vs1 := [.int .i64 client, .int .i64 seq, .int .i64 15, .bool true, .string f.val, .int .i64 f.rev]) (e1 := 42) rfl rfl rfl (by repeat (first | exact List.Mem.head _ | apply List.Mem.tail | fail)) rfl) (List.Sublist.cons _ (List.Sublist.cons _ (List.Sublist.cons _ (List.Sublist.cons _ (List.Sublist.refl _))))) ⟨rfl, _, rfl, hg⟩
    · rw [if_pos (by assumption)]
      repeat' (first | apply v_seq | apply v_nil | (apply v_pure; (case hop => first | (apply p_fieldAddrB <;> rfl) | fail); (case hd => rfl)) | (apply v_callJ (hs := qn); (case ha => rfl); (case hd => rfl)) | (apply v_store; (case hp => rfl); (case hx => rfl); (case hc => rfl); (case hsz => rfl); (case h1 => rfl); (case hb => (repeat (first | exact List.Mem.head _ | apply List.Mem.tail | fail))); (case hfit => first | exact Nat.le_of_ble_eq_true rfl | fail); (case hov => (first | ((repeat (first | with_reducible exact ov_nil | apply ov_cons | fail)); done) | fail)); (case hu => repeat (first | exact Upd.here _ _ | apply Upd.there | fail))) | fail)
      refine d_start [(b7, .cells [.int .i64 client, .int .i64 seq, .int .i64 0, .bool true, .string f.val, .int .i64 nr].toArray 42 (0, 0)), (bc, .cells (Cm.cells ⟨kind, client, seq, key, val, old, node⟩).toArray 38 (0, 0))] (by kernel_rfl) (by kernel_rfl) (by kernel_rfl) (by intro e he; first | (simp only [List.mem_cons, List.not_mem_nil, or_false] at he; rcases he with rfl | rfl <;> simp; done) | fail) ?_
      all_goals (first | (apply d_take 0; (case hi => rfl); (case hop => first | (apply PureOp.read; apply p_move <;> rfl)); (case hf => kernel_rfl); (case hr => kernel_rfl); (case hd => rfl)) | fail)
      all_goals (first | (apply d_take 1; (case hi => rfl); (case hop => first | (apply PureOp.read; apply p_fieldAddrB <;> rfl) | fail); (case hf => kernel_rfl); (case hr => kernel_rfl); (case hd => rfl)) | fail)
      all_goals (first | (apply d_take 2; (case hi => rfl); (case hop => first   | (apply r_loadNo; (case hx => rfl); (case h => (repeat (fail))); (case hd => (repeat (fail))); (case hn => rfl)) | (apply r_load1; rfl; (apply Cell.own; (case h => (repeat (first | exact List.Mem.head _ | apply List.Mem.tail | fail))); rfl)) | (apply r_loadN; rfl; (apply CellsAt.own; (case h => (repeat (fail)))); rfl)); (case hf => kernel_rfl); (case hr => kernel_rfl); (case hd => rfl)) | fail)
      all_goals (first | (apply d_take 3; (case hi => rfl); (case hop => first | (apply PureOp.read; apply p_fieldAddrB <;> rfl) | fail); (case hf => kernel_rfl); (case hr => kernel_rfl); (case hd => rfl)) | fail)
      all_goals (first | (apply d_take 4; (case hi => rfl); (case hop => first   | (apply r_loadNo; (case hx => rfl); (case h => (repeat (fail))); (case hd => (repeat (fail))); (case hn => rfl)) | (apply r_load1; rfl; (apply Cell.own; (case h => (repeat (first | exact List.Mem.head _ | apply List.Mem.tail | fail))); rfl)) | (apply r_loadN; rfl; (apply CellsAt.own; (case h => (repeat (fail)))); rfl)); (case hf => kernel_rfl); (case hr => kernel_rfl); (case hd => rfl)) | fail)
      all_goals (first | (apply d_take 5; (case hi => rfl); (case hop => first | (apply PureOp.read; apply p_fieldAddrB <;> rfl) | fail); (case hf => kernel_rfl); (case hr => kernel_rfl); (case hd => rfl)) | fail)
      all_goals (first | (apply d_take 6; (case hi => rfl); (case hop => first   | (apply r_loadNo; (case hx => rfl); (case h => (repeat (fail))); (case hd => (repeat (fail))); (case hn => rfl)) | (apply r_load1; rfl; (apply Cell.own; (case h => (repeat (first | exact List.Mem.head _ | fail))); rfl)) | (apply r_loadN; rfl; (apply CellsAt.own; (case h => (repeat (fail)))); rfl)); (case hf => kernel_rfl); (case hr => kernel_rfl); (case hd => rfl)) | fail)
      all_goals (first | (apply d_take 7; (case hi => rfl); (case hop => first | (apply PureOp.read; apply p_build; (case hz => rfl); (case hv => (simp only [List.map_cons, List.map_nil]; repeat (first | with_reducible exact evs_nil | (apply evs_cons; (case h1 => rfl))))); (case hb => (apply bldL; repeat (first | exact bld_nil | (apply bld_cons; (case hpf => rfl); (case hc => rfl); (case hs => rfl); (case hl => rfl); (case ho => (first | ((repeat (first | with_reducible exact ov_nil | apply ov_cons | fail)); done) | fail)))))))); (case hf => kernel_rfl); (case hr => kernel_rfl); (case hd => rfl)) | fail)
      all_goals (first | (apply d_take 9; (case hi => rfl); (case hop => first   | (apply r_loadNo; (case hx => rfl); (case h => (repeat (first | exact List.Mem.head _ | fail))); (case hd => (repeat (first | with_reducible exact dt_nil | apply dt_here | fail))); (case hn => rfl)) | (apply r_load1; rfl; (apply Cell.own; (case h => (repeat (fail))); rfl)) | (apply r_loadN; rfl; (apply CellsAt.own; (case h => (repeat (fail)))); rfl)); (case hf => kernel_rfl); (case hr => kernel_rfl); (case hd => rfl)) | fail)
      all_goals (first | ((apply d_call 8 (hs := q3) (μ1 := ν) (μ2 := [(b8, .cells [.string f.key, .string f.val, .int .i64 f.rev].toArray 65 (0, 0)), (b7, .cells [.int .i64 client, .int .i64 seq, .int .i64 0, .bool true, .string f.val, .int .i64 nr].toArray 42 (0, 0)), (b5, .cells [.int .i64 0, .int .i64 0, .int .i64 0, .bool false, .string ByteArray.empty, .int .i64 0].toArray 42 (0, 0)), (bc, .cells (Cm.cells ⟨kind, client, seq, key, val, old, node⟩).toArray 38 (0, 0))]); (case hi => rfl); (case hr => kernel_rfl);  (case ha => rfl); (case hp => exact (by apply perm_of_count; intro p; simp only [List.append_eq, List.countP_append, List.countP_cons, List.countP_nil, Nat.zero_add, Nat.add_zero]; try ac_rfl)); (case hd => rfl); (case hν' => intro e he; simp only [List.mem_cons, List.not_mem_nil, or_false] at he; rcases he with rfl | rfl <;> simp); rintro v2 G2 ν2 - ⟨hG2, hg2⟩; subst hG2)) | fail)
      all_goals (first | (apply d_take 10; (case hi => rfl); (case hop => first | (apply PureOp.read; apply p_assign <;> rfl)); (case hf => kernel_rfl); (case hr => kernel_rfl); (case hd => rfl)) | fail)
      all_goals (first | (apply d_store 11; (case hi => rfl); (case hr => kernel_rfl); (case hL => infer_instance); (case hp => rfl); (case hx => rfl); (case hc => rfl); (case hsz => rfl); (case h1 => rfl); (case hb => (repeat (first | exact List.Mem.head _ | apply List.Mem.tail | apply List.mem_append_right))); (case hfit => first | exact Nat.le_of_ble_eq_true rfl | fail); (case hov => (first | ((repeat (first | with_reducible exact ov_nil | apply ov_cons | fail)); done) | fail)); (case hu => repeat (first | exact Upd.here _ _ | apply Upd.there | apply Upd.app)); (case hν' => intro e he; first | (simp only [List.mem_cons, List.not_mem_nil, or_false] at he; rcases he with rfl | rfl <;> simp; done) | fail)) | fail)
      all_goals (apply d_done; (case hr => kernel_rfl))
      repeat' (fail)
      refine v_retM ν2 (outsM_tc (sz1 := 6) (vs1 := [.int .i64 client, .int .i64 seq, .int .i64 0, .bool true, .string f.val, .int .i64 nr]) (e1 := 42) rfl rfl rfl (by repeat (first | exact List.Mem.head _ | apply List.Mem.tail | apply List.mem_append_right)) rfl) (List.sublist_append_left _ _) ⟨rfl, _, rfl, hg2⟩
end Go.Proofs.YtgflmkhfachlcaaGreatDoor
/-
  kvtwo (layer 24): Do.
-/
set_option linter.unusedSimpArgs false
set_option linter.unusedVariables false
namespace Go.Proofs.YtgflmkhfachlcaaGreatDoor
open Go.Vx Go.ChangeShapes Go.WideShapes Go.ChangeAt Go.RowKit
theorem doOne_rise {l : List Pr} (hr : RiseW ksP l) (c : Cm) : RiseW ksP (doOne l c).1 := by
  unfold doOne
  split
  · split
    · exact withG_rise hr _
    · exact hr
  · split
    · exact hr
    · split
      · exact hr.sublist List.filter_sublist
      · exact hr
theorem doOne_mem {l : List Pr} {c : Cm} {x : Pr} (h : x ∈ (doOne l c).1) : x = ⟨c.key, c.val, 0⟩ ∨ x ∈ l := by
  unfold doOne at h
  split at h
  · split at h
    · exact withG_mem h
    · exact .inr h
  · split at h
    · exact .inr h
    · split at h
      · exact .inr (List.mem_filter.1 h).1
      · exact .inr h
theorem doOne_sized {l : List Pr} (hz : Sized l) {c : Cm} (hk : c.key.size ≤ 200) (hv : c.val.size ≤ 200) : Sized (doOne l c).1 := fun x hx => by
  rcases doOne_mem hx with rfl | hx
  · exact ⟨hk, hv⟩
  · exact hz x hx
theorem doOne_len {l : List Pr} (hr : RiseW ksP l) (c : Cm) : (doOne l c).1.length ≤ l.length + 1 := by
  unfold doOne
  split
  · split
    · simp only
      rw [withG_len hr]
      split <;> omega
    · simp
  · split
    · simp
    · split
      · exact Nat.le_trans (List.length_filter_le _ _) (by omega)
      · simp
noncomputable def doTwo (l : List Pr) (c : Cm) : List Pr × An :=
  if c.kind = 5 then casP l c
  else if c.kind = 2 ∧ (doOne l c).2.err = 0 then (withG ksP (doOne l c).1 ⟨c.key, c.val, nextR (findP l (kn c.key)).rev⟩, (doOne l c).2)
  else doOne l c
theorem lendDoOne {G : GH} {l : List Pr} {v : Value} {ν : OH} (c : Cm) (hg : GrP v l ν) (hr : RiseW ksP l) (hz : Sized l) (hk : c.key.size ≤ 200) (hn : l.length ≤ 150) :
    Con Tryz.prog 75 #[v, .agg c.cells.toArray] G ν (fun r G' μ' => G' = G ∧ ∃ μ1, (∃ v', r = .tuple [v', .agg (doOne l c).2.cells.toArray].toArray ∧ GrP v' (doOne l c).1 μ1) ∧ μ' = ν ++ μ1) :=
  Con.lendF fun G' _ h2 => (doOne_s c (row_of_grow Pr.len hg h2) hr hz hk hn).mono fun _ _ _ ⟨_, h⟩ => h
theorem doTwo_s {G : GH} {l : List Pr} {sv : Value} (c : Cm) (hs : Prs G sv l) (hr : RiseW ksP l) (hz : Sized l) (hk : c.key.size ≤ 200) (hv : c.val.size ≤ 200) (hn : l.length ≤ 150) (hrev : ∀ x ∈ l, 0 ≤ x.rev) :
    Con Tryz.prog 76 #[sv, .agg c.cells.toArray] G [] (fun r G' μ' => G' = G ∧ ∃ v, r = .tuple [v, .agg (doTwo l c).2.cells.toArray].toArray ∧ GrP v (doTwo l c).1 μ') := by
  have hrg := riseG_pw.2 hr
  have q1 := prClone_s hs (by omega)
  have q2 := fun (v : Value) (ν : OH) (hg : GrP v l ν) => lendFind (G := G) c.key hg hrg hz hk
  have q3 := fun (v : Value) (ν : OH) (hg : GrP v l ν) => lendDoOne (G := G) c hg hr hz hk hn
  have q4 := fun (v : Value) (ν : OH) (hg : GrP v l ν) => cas_s (G := G) c hg hr hz hk (by omega) hrev
  have hlen := doOne_len hr c
  have q5 := fun (v : Value) (ν : OH) (hg : GrP v (doOne l c).1 ν) => set_s (G := G) ⟨c.key, c.val, nextR (findP l (kn c.key)).rev⟩ hg (doOne_rise hr c) (doOne_sized hz hk hv) hk (by omega)
  have qn := nextR_s G _ (findP_rev hrev (kn c.key))
  unfold doTwo
  generalize hitG ksP l (kn c.key) = hb at *
  generalize findP l (kn c.key) = f at *
  generalize casP l c = cp at *
  generalize doOne l c = dd at *
  obtain ⟨l1, d⟩ := dd
  obtain ⟨cl, ca⟩ := cp
  generalize nextR f.rev = nr at *
  obtain ⟨kind, client, seq, key, val, old, node⟩ := c
  simp only at *
  generalize withG ksP l1 ⟨key, val, nr⟩ = lw at *
  (refine v_enter Tryz.func76 rfl Tryz.ntmps76 rfl ?_; intro B _)
  repeat' (first | (apply v_box (zs := Cm.cells ⟨kind, client, seq, key, val, old, node⟩); (case hx => rfl); (case hz => rfl); (case hd => rfl); intro bc) | (apply v_alloc (d := 5); (case hz => rfl); (case hd => rfl); intro b5) | apply v_seq | apply v_region | apply v_nil | (apply v_pure; (case hop => first | (apply p_move <;> rfl) | (apply p_assign <;> rfl) | fail); (case hd => rfl)) | fail)
  refine v_call (μ1 := []) (μ2 := _) rfl q1 (List.Perm.refl _) rfl ?_
  rintro v1 G1 ν1 - ⟨hG1, hg1⟩
  subst hG1
  have q2 := q2 v1 ν1 hg1
  have q3 := q3 v1 ν1 hg1
  have q4 := q4 v1 ν1 hg1
  repeat' (first | (apply v_read; (case hop => (apply r_loadNo; (case hx => rfl); (case h => repeat (first | exact List.Mem.head _ | apply List.Mem.tail | apply List.mem_append_right)); (case hd => rfl); (case hn => rfl))); (case hd => rfl)) | apply v_seq | apply v_region | apply v_nil | apply v_skip | (apply v_pure; (case hop => first | (apply p_move <;> rfl) | (apply p_eq <;> rfl) | (apply p_assign <;> rfl) | (apply p_fieldAddrB <;> rfl) | fail); (case hd => rfl)) | (apply v_cond; (case hc => rfl); all_goals (intro h; (try simp only [reduceCtorEq, dec_true, dec_false, decide_eq_true_eq, decide_eq_false_iff_not, Bool.not_eq_true', Bool.not_eq_false', Option.isNone_iff_eq_none, beq_true, beq_false, beq_iff_eq, beq_eq_false_iff_ne, ne_eq, decide_eq_decide, Bool.not_eq_true, Bool.not_eq_false, Decidable.not_not] at h); first | skip)) | (apply v_read; (case hop => first | (apply r_load1; rfl; (apply Cell.own; (case h => (repeat (first | exact List.Mem.head _ | apply List.Mem.tail | apply List.mem_append_right))); rfl)) | fail); (case hd => rfl)) | fail)
  · have h5 : kind = 5 := by assumption
    rw [if_pos h5]
    refine v_call (μ1 := ν1) (μ2 := [(b5, .cells [.int .i64 0, .int .i64 0, .int .i64 0, .bool false, .string ByteArray.empty, .int .i64 0].toArray 42 (0, 0)), (bc, .cells (Cm.cells ⟨kind, client, seq, key, val, old, node⟩).toArray 38 (0, 0))]) rfl q4 (List.Perm.refl _) rfl ?_
    rintro _ G2 ν2 - ⟨hG2, v2, rfl, hg2⟩
    subst hG2
    repeat' (first | apply v_nil | (apply v_pure; (case hop => first | (apply p_assign <;> rfl) | (apply p_extract0 <;> rfl) | (apply p_extract1 <;> rfl) | fail); (case hd => rfl)) | (apply v_store; (case hp => rfl); (case hx => rfl); (case hc => rfl); (case hsz => rfl); (case h1 => rfl); (case hb => (repeat (first | exact List.Mem.head _ | apply List.mem_append_right))); (case hfit => first | exact Nat.le_of_ble_eq_true rfl | fail); (case hov => (first | ((repeat (first | with_reducible exact ov_nil | apply ov_cons | fail)); done) | fail)); (case hu => repeat (first | exact Upd.here _ _ | apply Upd.app))) | fail)
    refine v_retM ν2 (outsM_tc (sz1 := 6) (vs1 := [.int .i64 ca.client, .int .i64 ca.seq, .int .i64 ca.err, .bool ca.found, .string ca.val, .int .i64 ca.rev]) (e1 := 42) rfl rfl rfl (by repeat (first | exact List.Mem.head _ | apply List.mem_append_right)) rfl) (List.sublist_append_left _ _) ⟨rfl, _, rfl, hg2⟩
  · rw [if_neg (by assumption)]
    repeat' (first | (apply v_alloc (d := 7); (case hz => rfl); (case hd => rfl); intro b7) | (apply v_read; (case hop => (apply r_loadNo; (case hx => rfl); (case h => repeat (first | exact List.Mem.head _ | apply List.Mem.tail | apply List.mem_append_right)); (case hd => rfl); (case hn => rfl))); (case hd => rfl)) | apply v_seq | apply v_region | apply v_nil | (apply v_pure; (case hop => first | (apply p_move <;> rfl) | (apply p_assign <;> rfl) | (apply p_extract0 <;> rfl) | (apply p_extract1 <;> rfl) | fail); (case hd => rfl)) | (apply v_callK (hs := q2) (μ2 := [(b5, .cells [.int .i64 0, .int .i64 0, .int .i64 0, .bool false, .string ByteArray.empty, .int .i64 0].toArray 42 (0, 0)), (bc, .cells (Cm.cells ⟨kind, client, seq, key, val, old, node⟩).toArray 38 (0, 0))]); (case ha => rfl); (case hp => exact List.Perm.refl _); (case hd => rfl)) | (apply v_store; (case hp => rfl); (case hx => rfl); (case hc => rfl); (case hsz => rfl); (case h1 => rfl); (case hb => (repeat (first | exact List.Mem.head _ | fail))); (case hfit => first | exact Nat.le_of_ble_eq_true rfl | fail); (case hov => (first | ((repeat (first | with_reducible exact ov_nil | apply ov_cons | fail)); done) | fail)); (case hu => repeat (first | exact Upd.here _ _ | fail))) | fail)
    refine v_call (μ1 := ν1) (μ2 := [(b7, .cells [.string f.key, .string f.val, .int .i64 f.rev].toArray 65 (0, 0)), (b5, .cells [.int .i64 0, .int .i64 0, .int .i64 0, .bool false, .string ByteArray.empty, .int .i64 0].toArray 42 (0, 0)), (bc, .cells (Cm.cells ⟨kind, client, seq, key, val, old, node⟩).toArray 38 (0, 0))]) rfl q3 (by apply perm_of_count; intro p; simp only [List.append_eq, List.countP_append, List.countP_cons, List.countP_nil, Nat.zero_add, Nat.add_zero]; try ac_rfl) rfl ?_
    rintro _ G2 _ - ⟨hG2, ν2, ⟨v2, rfl, hg2⟩, rfl⟩
    subst hG2
    have q5 := q5 v2 ν2 hg2
    refine v_perm (ν := ν2 ++ [(b7, .cells [.string f.key, .string f.val, .int .i64 f.rev].toArray 65 (0, 0)), (b5, .cells [.int .i64 0, .int .i64 0, .int .i64 0, .bool false, .string ByteArray.empty, .int .i64 0].toArray 42 (0, 0)), (bc, .cells (Cm.cells ⟨kind, client, seq, key, val, old, node⟩).toArray 38 (0, 0))] ++ ν1) (by apply perm_of_count; intro p; simp only [List.append_eq, List.countP_append, List.countP_cons, List.countP_nil, Nat.zero_add, Nat.add_zero]; try ac_rfl) ?_
    refine v_drop (List.sublist_append_left _ _) ?_
    repeat' (first | (apply v_alloc (d := 10); (case hz => rfl); (case hd => rfl); intro b10) | apply v_seq | apply v_region | apply v_nil | apply v_skip | (apply v_take; (case hg => rfl)) | (apply v_pass; (case hg => rfl); (case hn => rfl); (case hd => rfl)) | (apply v_pure; (case hop => first | (apply p_move <;> rfl) | (apply p_eq <;> rfl) | (apply p_assign <;> rfl) | (apply p_pickT <;> rfl) | (apply p_pickF <;> rfl) | (apply p_fieldAddrB <;> rfl) | (apply p_extract0 <;> rfl) | (apply p_extract1 <;> rfl) | fail); (case hd => rfl)) | (apply v_condF; (case hc => rfl)) | (apply v_cond; (case hc => rfl); all_goals (intro h; (try simp only [reduceCtorEq, dec_true, dec_false, decide_eq_true_eq, decide_eq_false_iff_not, Bool.not_eq_true', Bool.not_eq_false', Option.isNone_iff_eq_none, beq_true, beq_false, beq_iff_eq, beq_eq_false_iff_ne, ne_eq, decide_eq_decide, Bool.not_eq_true, Bool.not_eq_false, Decidable.not_not] at h); first | skip)) | (apply v_guardB; (case h1 => rfl); (case h2 => rfl); all_goals (intro h; (try simp only [reduceCtorEq, dec_true, dec_false, decide_eq_true_eq, decide_eq_false_iff_not, Bool.not_eq_true', Bool.not_eq_false', Option.isNone_iff_eq_none, beq_true, beq_false, beq_iff_eq, beq_eq_false_iff_ne, ne_eq, decide_eq_decide, Bool.not_eq_true, Bool.not_eq_false, Decidable.not_not] at h); first | skip)) | (apply v_read; (case hop => first | (apply r_load1; rfl; (apply Cell.own; (case h => (repeat (first | exact List.Mem.head _ | apply List.Mem.tail | apply List.mem_append_right))); rfl)) | fail); (case hd => rfl)) | (apply v_store; (case hp => rfl); (case hx => rfl); (case hc => rfl); (case hsz => rfl); (case h1 => rfl); (case hb => (repeat (first | exact List.Mem.head _ | fail))); (case hfit => first | exact Nat.le_of_ble_eq_true rfl | fail); (case hov => (first | ((repeat (first | with_reducible exact ov_nil | apply ov_cons | fail)); done) | fail)); (case hu => repeat (first | exact Upd.here _ _ | fail))) | fail)
    · rw [if_pos ⟨by assumption, by assumption⟩]
      refine d_start [(b7, .cells [.string f.key, .string f.val, .int .i64 f.rev].toArray 65 (0, 0)), (bc, .cells (Cm.cells ⟨kind, client, seq, key, val, old, node⟩).toArray 38 (0, 0))] (by kernel_rfl) (by kernel_rfl) (by kernel_rfl) (by intro e he; first | (simp only [List.mem_cons, List.not_mem_nil, or_false] at he; rcases he with rfl | rfl <;> simp; done) | fail) ?_
      all_goals (first | (apply d_take 0; (case hi => rfl); (case hop => first | (apply PureOp.read; apply p_move <;> rfl)); (case hf => kernel_rfl); (case hr => kernel_rfl); (case hd => rfl)) | fail)
      all_goals (first | (apply d_take 1; (case hi => rfl); (case hop => first | (apply PureOp.read; apply p_fieldAddrB <;> rfl) | fail); (case hf => kernel_rfl); (case hr => kernel_rfl); (case hd => rfl)) | fail)
      all_goals (first | (apply d_take 2; (case hi => rfl); (case hop => first   | (apply r_loadNo; (case hx => rfl); (case h => (repeat (fail))); (case hd => (repeat (fail))); (case hn => rfl)) | (apply r_load1; rfl; (apply Cell.own; (case h => (repeat (first | exact List.Mem.head _ | apply List.Mem.tail | fail))); rfl)) | (apply r_loadN; rfl; (apply CellsAt.own; (case h => (repeat (fail)))); rfl)); (case hf => kernel_rfl); (case hr => kernel_rfl); (case hd => rfl)) | fail)
      all_goals (first | (apply d_take 3; (case hi => rfl); (case hop => first | (apply PureOp.read; apply p_fieldAddrB <;> rfl) | fail); (case hf => kernel_rfl); (case hr => kernel_rfl); (case hd => rfl)) | fail)
      all_goals (first | (apply d_take 4; (case hi => rfl); (case hop => first   | (apply r_loadNo; (case hx => rfl); (case h => (repeat (fail))); (case hd => (repeat (fail))); (case hn => rfl)) | (apply r_load1; rfl; (apply Cell.own; (case h => (repeat (first | exact List.Mem.head _ | apply List.Mem.tail | fail))); rfl)) | (apply r_loadN; rfl; (apply CellsAt.own; (case h => (repeat (fail)))); rfl)); (case hf => kernel_rfl); (case hr => kernel_rfl); (case hd => rfl)) | fail)
      all_goals (first | (apply d_take 5; (case hi => rfl); (case hop => first | (apply PureOp.read; apply p_fieldAddrB <;> rfl) | fail); (case hf => kernel_rfl); (case hr => kernel_rfl); (case hd => rfl)) | fail)
      all_goals (first | (apply d_take 6; (case hi => rfl); (case hop => first   | (apply r_loadNo; (case hx => rfl); (case h => (repeat (fail))); (case hd => (repeat (fail))); (case hn => rfl)) | (apply r_load1; rfl; (apply Cell.own; (case h => (repeat (first | exact List.Mem.head _ | fail))); rfl)) | (apply r_loadN; rfl; (apply CellsAt.own; (case h => (repeat (fail)))); rfl)); (case hf => kernel_rfl); (case hr => kernel_rfl); (case hd => rfl)) | fail)
      all_goals (first | ((apply d_callJ 7 (hs := qn); (case hi => rfl); (case hr => kernel_rfl);  (case ha => rfl); (case hd => rfl))) | fail)
      all_goals (first | (apply d_take 8; (case hi => rfl); (case hop => first | (apply PureOp.read; apply p_build; (case hz => rfl); (case hv => (simp only [List.map_cons, List.map_nil]; repeat (first | with_reducible exact evs_nil | (apply evs_cons; (case h1 => rfl))))); (case hb => (apply bldL; repeat (first | exact bld_nil | (apply bld_cons; (case hpf => rfl); (case hc => rfl); (case hs => rfl); (case hl => rfl); (case ho => (first | ((repeat (first | with_reducible exact ov_nil | apply ov_cons | fail)); done) | fail)))))))); (case hf => kernel_rfl); (case hr => kernel_rfl); (case hd => rfl)) | fail)
      all_goals (first | ((apply d_call 9 (hs := q5) (μ1 := ν2) (μ2 := (b10, .cells [.int .i64 d.client, .int .i64 d.seq, .int .i64 d.err, .bool d.found, .string d.val, .int .i64 d.rev].toArray 42 (0, 0)) :: [(b7, .cells [.string f.key, .string f.val, .int .i64 f.rev].toArray 65 (0, 0)), (b5, .cells [.int .i64 0, .int .i64 0, .int .i64 0, .bool false, .string ByteArray.empty, .int .i64 0].toArray 42 (0, 0)), (bc, .cells (Cm.cells ⟨kind, client, seq, key, val, old, node⟩).toArray 38 (0, 0))]); (case hi => rfl); (case hr => kernel_rfl);  (case ha => rfl); (case hp => exact (List.perm_append_comm_assoc [(b10, .cells [.int .i64 d.client, .int .i64 d.seq, .int .i64 d.err, .bool d.found, .string d.val, .int .i64 d.rev].toArray 42 (0, 0))] ν2 [(b7, .cells [.string f.key, .string f.val, .int .i64 f.rev].toArray 65 (0, 0)), (b5, .cells [.int .i64 0, .int .i64 0, .int .i64 0, .bool false, .string ByteArray.empty, .int .i64 0].toArray 42 (0, 0)), (bc, .cells (Cm.cells ⟨kind, client, seq, key, val, old, node⟩).toArray 38 (0, 0))])); (case hd => rfl); (case hν' => intro e he; simp only [List.mem_cons, List.not_mem_nil, or_false] at he; rcases he with rfl | rfl <;> simp); rintro v3 G3 ν3 - ⟨hG3, hg3⟩; subst hG3)) | fail)
      all_goals (first | (apply d_take 10; (case hi => rfl); (case hop => first | (apply PureOp.read; apply p_assign <;> rfl)); (case hf => kernel_rfl); (case hr => kernel_rfl); (case hd => rfl)) | fail)
      all_goals (apply d_done; (case hr => kernel_rfl))
      repeat' (first | apply v_seq | fail)
      refine d_start [(b10, .cells [.int .i64 d.client, .int .i64 d.seq, .int .i64 d.err, .bool d.found, .string d.val, .int .i64 d.rev].toArray 42 (0, 0))] (by kernel_rfl) (by kernel_rfl) (by kernel_rfl) (by intro e he; first | (simp at he; simp [he]; done) | fail) ?_
      all_goals (first | (apply d_take 0; (case hi => rfl); (case hop => first | (apply PureOp.read; apply p_move <;> rfl)); (case hf => kernel_rfl); (case hr => kernel_rfl); (case hd => rfl)) | fail)
      all_goals (first | (apply d_take 1; (case hi => rfl); (case hop => first   | (apply r_loadNo; (case hx => rfl); (case h => (repeat (first | exact List.Mem.head _ | fail))); (case hd => (repeat (first | with_reducible exact dt_nil | apply dt_here | fail))); (case hn => rfl)) | (apply r_load1; rfl; (apply Cell.own; (case h => (repeat (fail))); rfl)) | (apply r_loadN; rfl; (apply CellsAt.own; (case h => (repeat (fail)))); rfl)); (case hf => kernel_rfl); (case hr => kernel_rfl); (case hd => rfl)) | fail)
      all_goals (first | (apply d_take 2; (case hi => rfl); (case hop => first | (apply PureOp.read; apply p_assign <;> rfl)); (case hf => kernel_rfl); (case hr => kernel_rfl); (case hd => rfl)) | fail)
      all_goals (first | (apply d_store 3; (case hi => rfl); (case hr => kernel_rfl); (case hL => infer_instance); (case hp => rfl); (case hx => rfl); (case hc => rfl); (case hsz => rfl); (case h1 => rfl); (case hb => (repeat (first | exact List.Mem.head _ | apply List.Mem.tail | apply List.mem_append_right))); (case hfit => first | exact Nat.le_of_ble_eq_true rfl | fail); (case hov => (first | ((repeat (first | with_reducible exact ov_nil | apply ov_cons | fail)); done) | fail)); (case hu => repeat (first | exact Upd.here _ _ | apply Upd.there | apply Upd.app)); (case hν' => intro e he; first | (simp at he; simp [he]; done) | fail)) | fail)
      all_goals (apply d_done; (case hr => kernel_rfl))
      repeat' (fail)
      refine v_retM ν3 (outsM_tc (sz1 := 6) (vs1 := [.int .i64 d.client, .int .i64 d.seq, .int .i64 d.err, .bool d.found, .string d.val, .int .i64 d.rev]) (e1 := 42) rfl rfl rfl (by repeat (first | exact List.Mem.head _ | apply List.Mem.tail | apply List.mem_append_right)) rfl) (List.sublist_append_left _ _) ⟨rfl, _, rfl, hg3⟩
    · rw [if_neg (fun h => absurd h.2 (by assumption))]
      refine d_start [(b10, .cells [.int .i64 d.client, .int .i64 d.seq, .int .i64 d.err, .bool d.found, .string d.val, .int .i64 d.rev].toArray 42 (0, 0))] (by kernel_rfl) (by kernel_rfl) (by kernel_rfl) (by intro e he; first | (simp at he; simp [he]; done) | fail) ?_
      all_goals (first | (apply d_take 0; (case hi => rfl); (case hop => first | (apply PureOp.read; apply p_move <;> rfl)); (case hf => kernel_rfl); (case hr => kernel_rfl); (case hd => rfl)) | fail)
      all_goals (first | (apply d_take 1; (case hi => rfl); (case hop => first   | (apply r_loadNo; (case hx => rfl); (case h => (repeat (first | exact List.Mem.head _ | fail))); (case hd => (repeat (first | with_reducible exact dt_nil | apply dt_here | fail))); (case hn => rfl)) | (apply r_load1; rfl; (apply Cell.own; (case h => (repeat (fail))); rfl)) | (apply r_loadN; rfl; (apply CellsAt.own; (case h => (repeat (fail)))); rfl)); (case hf => kernel_rfl); (case hr => kernel_rfl); (case hd => rfl)) | fail)
      all_goals (first | (apply d_take 2; (case hi => rfl); (case hop => first | (apply PureOp.read; apply p_assign <;> rfl)); (case hf => kernel_rfl); (case hr => kernel_rfl); (case hd => rfl)) | fail)
      all_goals (first | (apply d_store 3; (case hi => rfl); (case hr => kernel_rfl); (case hL => infer_instance); (case hp => rfl); (case hx => rfl); (case hc => rfl); (case hsz => rfl); (case h1 => rfl); (case hb => (repeat (first | exact List.Mem.head _ | apply List.Mem.tail | apply List.mem_append_right))); (case hfit => first | exact Nat.le_of_ble_eq_true rfl | fail); (case hov => (first | ((repeat (first | with_reducible exact ov_nil | apply ov_cons | fail)); done) | fail)); (case hu => repeat (first | exact Upd.here _ _ | apply Upd.there | apply Upd.app)); (case hν' => intro e he; first | (simp at he; simp [he]; done) | fail)) | fail)
      all_goals (apply d_done; (case hr => kernel_rfl))
      repeat' (fail)
      refine v_retM ν2 (outsM_tc (sz1 := 6) (vs1 := [.int .i64 d.client, .int .i64 d.seq, .int .i64 d.err, .bool d.found, .string d.val, .int .i64 d.rev]) (e1 := 42) rfl rfl rfl (by repeat (first | exact List.Mem.head _ | apply List.Mem.tail | apply List.mem_append_right)) rfl) (List.Sublist.cons _ (List.sublist_append_left _ _)) ⟨rfl, _, rfl, hg2⟩
    · rw [if_neg (fun h => absurd h.1 (by assumption))]
      refine d_start [(b10, .cells [.int .i64 d.client, .int .i64 d.seq, .int .i64 d.err, .bool d.found, .string d.val, .int .i64 d.rev].toArray 42 (0, 0))] (by kernel_rfl) (by kernel_rfl) (by kernel_rfl) (by intro e he; first | (simp at he; simp [he]; done) | fail) ?_
      all_goals (first | (apply d_take 0; (case hi => rfl); (case hop => first | (apply PureOp.read; apply p_move <;> rfl)); (case hf => kernel_rfl); (case hr => kernel_rfl); (case hd => rfl)) | fail)
      all_goals (first | (apply d_take 1; (case hi => rfl); (case hop => first   | (apply r_loadNo; (case hx => rfl); (case h => (repeat (first | exact List.Mem.head _ | fail))); (case hd => (repeat (first | with_reducible exact dt_nil | apply dt_here | fail))); (case hn => rfl)) | (apply r_load1; rfl; (apply Cell.own; (case h => (repeat (fail))); rfl)) | (apply r_loadN; rfl; (apply CellsAt.own; (case h => (repeat (fail)))); rfl)); (case hf => kernel_rfl); (case hr => kernel_rfl); (case hd => rfl)) | fail)
      all_goals (first | (apply d_take 2; (case hi => rfl); (case hop => first | (apply PureOp.read; apply p_assign <;> rfl)); (case hf => kernel_rfl); (case hr => kernel_rfl); (case hd => rfl)) | fail)
      all_goals (first | (apply d_store 3; (case hi => rfl); (case hr => kernel_rfl); (case hL => infer_instance); (case hp => rfl); (case hx => rfl); (case hc => rfl); (case hsz => rfl); (case h1 => rfl); (case hb => (repeat (first | exact List.Mem.head _ | apply List.Mem.tail | apply List.mem_append_right))); (case hfit => first | exact Nat.le_of_ble_eq_true rfl | fail); (case hov => (first | ((repeat (first | with_reducible exact ov_nil | apply ov_cons | fail)); done) | fail)); (case hu => repeat (first | exact Upd.here _ _ | apply Upd.there | apply Upd.app)); (case hν' => intro e he; first | (simp at he; simp [he]; done) | fail)) | fail)
      all_goals (apply d_done; (case hr => kernel_rfl))
      repeat' (fail)
      refine v_retM ν2 (outsM_tc (sz1 := 6) (vs1 := [.int .i64 d.client, .int .i64 d.seq, .int .i64 d.err, .bool d.found, .string d.val, .int .i64 d.rev]) (e1 := 42) rfl rfl rfl (by repeat (first | exact List.Mem.head _ | apply List.Mem.tail | apply List.mem_append_right)) rfl) (List.Sublist.cons _ (List.sublist_append_left _ _)) ⟨rfl, _, rfl, hg2⟩
end Go.Proofs.YtgflmkhfachlcaaGreatDoor
/-
  answer, sess (layers 9, 22): answers, and sessions.
-/
set_option linter.unusedSimpArgs false
set_option linter.unusedVariables false
namespace Go.Proofs.YtgflmkhfachlcaaGreatDoor
open Go.Vx Go.ChangeShapes Go.WideShapes Go.ChangeAt Go.RowKit
def AnNum (a : An) : Prop := (1 ≤ a.client ∧ a.client ≤ 8) ∧ (1 ≤ a.seq ∧ a.seq ≤ 4294967296) ∧ (0 ≤ a.err ∧ a.err ≤ 17) ∧ (0 ≤ a.rev ∧ a.rev ≤ 4294967296)
noncomputable def ansI (a : An) : Int := if (1 ≤ a.client ∧ a.client ≤ 8) ∧ (1 ≤ a.seq ∧ a.seq ≤ 4294967296) ∧ (0 ≤ a.err ∧ a.err ≤ 17) ∧ (0 ≤ a.rev ∧ a.rev ≤ 4294967296) then (if valB a.val = true then 0 else 7) else 6
theorem ansI_zero {a : An} : ansI a = 0 ↔ AnNum a ∧ valB a.val = true := by
  unfold ansI AnNum
  by_cases h : (1 ≤ a.client ∧ a.client ≤ 8) ∧ (1 ≤ a.seq ∧ a.seq ≤ 4294967296) ∧ (0 ≤ a.err ∧ a.err ≤ 17) ∧ (0 ≤ a.rev ∧ a.rev ≤ 4294967296)
  · rw [if_pos h]
    by_cases hv : valB a.val = true
    · rw [if_pos hv]; exact ⟨fun _ => ⟨h, hv⟩, fun _ => rfl⟩
    · rw [if_neg hv]; exact ⟨fun e => (by omega), fun e => absurd e.2 hv⟩
  · rw [if_neg h]
    exact ⟨fun e => (by omega), fun e => absurd e.1 h⟩
theorem within_s (G : GH) (n a b : Int) : Con Tryz.prog 80 #[.int .i64 n, .int .i64 a, .int .i64 b] G [] (Just (.bool (decide (a ≤ n ∧ n ≤ b))) G) := by
  apply Con.just
  (refine v_enter Tryz.func80 rfl Tryz.ntmps80 rfl ?_; intro B _)
  repeat' (first | apply v_seq | apply v_region | apply v_nil | (apply v_take; (case hg => rfl)) | (apply v_pass; (case hg => rfl); (case hn => rfl); (case hd => rfl)) | (apply v_pure; (case hop => first | (apply p_move <;> rfl) | (apply p_le <;> rfl) | (apply p_ge <;> rfl) | (apply p_assign <;> rfl) | (apply p_pickT <;> rfl) | (apply p_pickF <;> rfl) | fail); (case hd => rfl)) | (apply v_guardB; (case h1 => rfl); (case h2 => rfl); all_goals (intro h; (try simp only [reduceCtorEq, dec_true, dec_false, decide_eq_true_eq, decide_eq_false_iff_not, Bool.not_eq_true', Bool.not_eq_false', Option.isNone_iff_eq_none, beq_true, beq_false, beq_iff_eq, beq_eq_false_iff_ne, ne_eq, decide_eq_decide, Bool.not_eq_true, Bool.not_eq_false, Decidable.not_not] at h); first | skip)) | fail)
  all_goals
    (refine v_ret [] (outsA1 rfl rfl) (by repeat (first | exact List.Sublist.refl _ | fail)) ?_
     refine ⟨?_, rfl⟩
     congr 1
     rw [Bool.eq_iff_iff]
     simp [dec_eq]
     try omega)
theorem ansCheck_s {G : GH} (hT : TabsG G) (a : An) (hv : a.val.size ≤ 200) : Con Tryz.prog 58 #[.agg a.cells.toArray] G [] (Just (.int .i64 (ansI a)) G) := by
  have q1 := within_s G a.client 1 8
  have q2 := within_s G a.seq 1 4294967296
  have q3 := within_s G a.err 0 17
  have q4 := within_s G a.rev 0 4294967296
  have qv := val_s (s := a.val) hT (by omega)
  unfold ansI
  apply Con.just
  obtain ⟨client, seq, err, found, val, rev⟩ := a
  simp only at *
  generalize hvb : valB val = vb at *
  (refine v_enter Tryz.func58 rfl Tryz.ntmps58 rfl ?_; intro B _)
  repeat' (first | (apply v_box (zs := An.cells ⟨client, seq, err, found, val, rev⟩); (case hx => rfl); (case hz => rfl); (case hd => rfl); intro b) | apply v_seq | apply v_region | apply v_nil | apply v_skip | apply v_block | apply v_blk | (apply v_take; (case hg => rfl)) | (apply v_pass; (case hg => rfl); (case hn => rfl); (case hd => rfl)) | (apply v_pure; (case hop => first | (apply p_move <;> rfl) | (apply p_assign <;> rfl) | (apply p_pickT <;> rfl) | (apply p_pickF <;> rfl) | (apply p_not <;> rfl) | (apply p_fieldAddrB <;> rfl) | fail); (case hd => rfl)) | (apply v_condT; (case hc => rfl)) | (apply v_cond; (case hc => rfl); all_goals (intro h; (try simp only [reduceCtorEq, dec_true, dec_false, decide_eq_true_eq, decide_eq_false_iff_not, Bool.not_eq_true', Bool.not_eq_false', Option.isNone_iff_eq_none, beq_true, beq_false, beq_iff_eq, beq_eq_false_iff_ne, ne_eq, decide_eq_decide, Bool.not_eq_true, Bool.not_eq_false, Decidable.not_not] at h); first | skip)) | (apply v_guardB; (case h1 => rfl); (case h2 => rfl); all_goals (intro h; (try simp only [reduceCtorEq, dec_true, dec_false, decide_eq_true_eq, decide_eq_false_iff_not, Bool.not_eq_true', Bool.not_eq_false', Option.isNone_iff_eq_none, beq_true, beq_false, beq_iff_eq, beq_eq_false_iff_ne, ne_eq, decide_eq_decide, Bool.not_eq_true, Bool.not_eq_false, Decidable.not_not] at h); first | skip)) | (apply v_callFJ0 (hs := q1); (case hx => rfl); (case ha => rfl); (case hd => rfl)) | (apply v_callFJ0 (hs := q2); (case hx => rfl); (case ha => rfl); (case hd => rfl)) | (apply v_callFJ0 (hs := q3); (case hx => rfl); (case ha => rfl); (case hd => rfl)) | (apply v_callFJ0 (hs := q4); (case hx => rfl); (case ha => rfl); (case hd => rfl)) | (apply v_callJ (hs := qv); (case ha => rfl); (case hd => rfl)) | (apply v_read; (case hop => first | (apply r_load1; rfl; (apply Cell.own; (case h => (repeat (first | exact List.Mem.head _ | fail))); rfl)) | fail); (case hd => rfl)) | fail)
  all_goals
    (refine v_ret [] (outsA1 rfl rfl) (by repeat (first | exact List.nil_sublist _ | fail)) ?_
     refine ⟨?_, rfl⟩
     (repeat' split) <;> first | rfl | (exfalso; omega) | (exfalso; simp_all; done))
/-! ### Sessions -/
def SsOk (x : Ss) : Prop := x.last.client = x.client ∧ x.last.seq = x.seq ∧ ansI x.last = 0
def AdjS (l : List Ss) : Prop := ∀ i (h : i < l.length) (h0 : 0 < i), ksS (l[i - 1]'(by omega)) < ksS l[i]
def SesP (l : List Ss) : Prop := AdjS l ∧ ∀ x ∈ l, SsOk x
noncomputable instance (l : List Ss) : Decidable (SesP l) := Classical.propDecidable _
def SizedS (l : List Ss) : Prop := ∀ x ∈ l, x.last.val.size ≤ 200
theorem adjS_rise {l : List Ss} (h : AdjS l) : RiseG ksS l := by
  intro i j hj hij
  induction j with
  | zero => omega
  | succ j ih =>
    have h1 := h (j + 1) hj (by omega)
    simp only [Nat.add_sub_cancel] at h1
    by_cases e : i = j
    · subst e; exact h1
    · have := ih (by omega) (by omega)
      omega
theorem rise_adjS {l : List Ss} (h : RiseG ksS l) : AdjS l := fun i hi h0 => h (i - 1) i hi (by omega)
set_option maxHeartbeats 1000000 in
theorem sesCheck_s {G : GH} (hT : TabsG G) {l : List Ss} {sv : Value} (hs : Sss G sv l) (hz : SizedS l) : Con Tryz.prog 36 #[sv] G [] (Just (.int .i64 (if SesP l then 0 else 3)) G) := by
  obtain ⟨A, c, rfl, hlc, hcm, hsome, hcp⟩ := rowOpen hs
  simp only [maxLen] at hcm
  apply Con.just
  (refine v_enter Tryz.func36 rfl Tryz.ntmps36 rfl ?_; intro B _)
  repeat' (first | apply v_seq | apply v_region | apply v_nil | apply v_block | (apply v_pure; (case hop => first | (apply p_move <;> rfl) | (apply p_assign <;> rfl) | (apply p_lenSlice <;> rfl) | fail); (case hd => rfl)) | fail)
  refine v_loop [7, 6, 5, 0] (fun us G' μ' => G' = G ∧ μ' = [] ∧ ∃ k : Nat, k ≤ l.length ∧ us = [Value.int .i64 (k : Nat), .int .i64 (l.length : Nat), .slice A l.length c, .slice A l.length c] ∧ ∀ i (h : i < l.length), i < k → (∀ h0 : 0 < i, ksS (l[i - 1]'(by omega)) < ksS l[i]) ∧ SsOk l[i]) (fun us => l.length - (headI us).toNat) rfl ⟨rfl, rfl, 0, by omega, rfl, by omega⟩ ?_
  rintro us G' _ ⟨rfl, rfl, k, hk, rfl, hno⟩
  by_cases hlt : k < l.length
  · have e1 : ((k : Nat) : Int).toNat = k := by omega
    have hA := hsome (by omega)
    have hck := hcp k hlt
    have hz1 := hz _ (List.getElem_mem hlt)
    obtain ⟨pc, hpc, hpe⟩ : ∃ pc : Int, (0 < k → GH.cell? G' (((adr A).add ((((k : Nat) : Int) - 1).toNat * 8)).add 0) = some (.int .i64 pc)) ∧ ∀ h0 : 0 < k, pc = (l[k - 1]'(by omega)).client := by
      by_cases h0 : 0 < k
      · have e2 : (((k : Nat) : Int) - 1).toNat = k - 1 := by omega
        exact ⟨_, fun _ => by rw [e2]; exact (hcp (k - 1) (by omega)).cell (j := 0) rfl, fun _ => rfl⟩
      · exact ⟨0, fun h => absurd h h0, fun h => absurd h h0⟩
    have hin : ∀ P : Prop, SesP l → (((∀ h0 : 0 < k, pc < (l[k]).client) ∧ SsOk l[k]) → P) → P := fun P h hp => hp ⟨fun h0 => by rw [hpe h0]; exact h.1 k hlt h0, h.2 _ (List.getElem_mem hlt)⟩
    have hnx : (∀ h0 : 0 < k, pc < (l[k]).client) → SsOk l[k] → ∀ i (h : i < l.length), i < k + 1 → (∀ h0 : 0 < i, ksS (l[i - 1]'(by omega)) < ksS l[i]) ∧ SsOk l[i] := fun a1 a2 i hi hik => by
      by_cases e : i = k
      · subst e
        exact ⟨fun h0 => by have := a1 h0; rw [hpe h0] at this; exact this, a2⟩
      · exact hno i hi (by omega)
    have qa := ansCheck_s (a := (l[k]).last) hT hz1
    clear hpe
    generalize l[k] = x at *
    obtain ⟨client, seq, ⟨lc, ls, le, lf, lv, lr⟩⟩ := x
    unfold SsOk at hin hnx
    simp only at *
    generalize ansI ⟨lc, ls, le, lf, lv, lr⟩ = ai at *
    repeat' (first | apply v_seq | apply v_region | apply v_nil | apply v_skip | apply v_block | (apply v_pure; (case hop => first | (apply p_move <;> rfl) | (apply p_lt <;> rfl) | (apply p_assign <;> rfl) | (apply p_indexAddrS; (case hx => rfl); (case hi => rfl); (case h0 => omega); (case h => omega); (case hA => first | assumption | fail)) | fail); (case hd => rfl)) | (apply v_cond; (case hc => rfl); all_goals (intro h; (try simp only [reduceCtorEq, dec_true, dec_false, decide_eq_true_eq, decide_eq_false_iff_not, Bool.not_eq_true', Bool.not_eq_false', Option.isNone_iff_eq_none, beq_true, beq_false, beq_iff_eq, beq_eq_false_iff_ne, ne_eq, decide_eq_decide, Bool.not_eq_true, Bool.not_eq_false, Decidable.not_not] at h); first | (exfalso; omega) | skip)) | (apply v_read; (case hop => (apply r_loadN; rfl; exact CellsAt.frozen hck; rfl)); (case hd => rfl)) | (apply v_alloc; (case hz => rfl); (case hd => rfl); intro b) | (apply v_store; (case hp => rfl); (case hx => rfl); (case hc => rfl); (case hsz => rfl); (case h1 => rfl); (case hb => (repeat (first | exact List.Mem.head _ | fail))); (case hfit => first | exact Nat.le_of_ble_eq_true rfl | fail); (case hov => (first | ((repeat (first | with_reducible exact ov_nil | apply ov_cons | fail)); done) | fail)); (case hu => repeat (first | exact Upd.here _ _ | fail))) | fail)
    refine d_start [(b, .cells [.int .i64 client, .int .i64 seq, .int .i64 lc, .int .i64 ls, .int .i64 le, .bool lf, .string lv, .int .i64 lr].toArray 55 (0, 0))] (by kernel_rfl) (by kernel_rfl) (by kernel_rfl) (by intro e he; first | exact he | fail) ?_
    all_goals (first | (apply d_take 0; (case hi => rfl); (case hop => first | (apply PureOp.read; apply p_move <;> rfl)); (case hf => kernel_rfl); (case hr => kernel_rfl); (case hd => rfl)) | fail)
    all_goals (first | (apply d_take 1; (case hi => rfl); (case hop => first | (apply PureOp.read; apply p_gt <;> rfl)); (case hf => kernel_rfl); (case hr => kernel_rfl); (case hd => rfl)) | fail)
    all_goals (first | (apply d_take 2; (case hi => rfl); (case hop => first | (apply PureOp.read; apply p_move <;> rfl)); (case hf => kernel_rfl); (case hr => kernel_rfl); (case hd => rfl)) | fail)
    all_goals (try (apply d_guardB 3; (case hi => rfl); (case hgd => rfl); (case h1 => rfl); (case h2 => first | rfl); all_goals (intro h; (try simp only [reduceCtorEq, dec_true, dec_false, decide_eq_true_eq, decide_eq_false_iff_not, Bool.not_eq_true', Bool.not_eq_false', Option.isNone_iff_eq_none, beq_true, beq_false, beq_iff_eq, beq_eq_false_iff_ne, ne_eq, decide_eq_decide, Bool.not_eq_true, Bool.not_eq_false, Decidable.not_not] at h); first | skip)))
    all_goals (first | (apply d_pass 3; (case hi => rfl); (case hg => rfl); (case hn => rfl); (case hf => kernel_rfl); (case hr => kernel_rfl); (case hd => rfl)) | (apply d_takeG 3; (case hi => rfl); (case hg => rfl); (case hop => first | (apply PureOp.read; apply p_fieldAddrB <;> rfl) | fail); (case hf => kernel_rfl); (case hr => kernel_rfl); (case hd => rfl)) | fail)
    all_goals (try (apply d_guardB 4; (case hi => rfl); (case hgd => rfl); (case h1 => rfl); (case h2 => first | rfl); all_goals (intro h; (try simp only [reduceCtorEq, dec_true, dec_false, decide_eq_true_eq, decide_eq_false_iff_not, Bool.not_eq_true', Bool.not_eq_false', Option.isNone_iff_eq_none, beq_true, beq_false, beq_iff_eq, beq_eq_false_iff_ne, ne_eq, decide_eq_decide, Bool.not_eq_true, Bool.not_eq_false, Decidable.not_not] at h); first | done | skip)))
    all_goals (first | (apply d_pass 4; (case hi => rfl); (case hg => rfl); (case hn => rfl); (case hf => kernel_rfl); (case hr => kernel_rfl); (case hd => rfl)) | (apply d_takeG 4; (case hi => rfl); (case hg => rfl); (case hop => first | (apply r_load1; rfl; (apply Cell.own; (case h => (repeat (first | exact List.Mem.head _ | fail))); rfl)) | fail); (case hf => kernel_rfl); (case hr => kernel_rfl); (case hd => rfl)) | fail)
    all_goals (try (apply d_guardB 5; (case hi => rfl); (case hgd => rfl); (case h1 => rfl); (case h2 => first | rfl); all_goals (intro h; (try simp only [reduceCtorEq, dec_true, dec_false, decide_eq_true_eq, decide_eq_false_iff_not, Bool.not_eq_true', Bool.not_eq_false', Option.isNone_iff_eq_none, beq_true, beq_false, beq_iff_eq, beq_eq_false_iff_ne, ne_eq, decide_eq_decide, Bool.not_eq_true, Bool.not_eq_false, Decidable.not_not] at h); first | done | skip)))
    all_goals (first | (apply d_pass 5; (case hi => rfl); (case hg => rfl); (case hn => rfl); (case hf => kernel_rfl); (case hr => kernel_rfl); (case hd => rfl)) | (apply d_takeG 5; (case hi => rfl); (case hg => rfl); (case hop => first | (apply PureOp.read; apply p_move <;> rfl)); (case hf => kernel_rfl); (case hr => kernel_rfl); (case hd => rfl)) | fail)
    all_goals (try (apply d_guardB 6; (case hi => rfl); (case hgd => rfl); (case h1 => rfl); (case h2 => first | rfl); all_goals (intro h; (try simp only [reduceCtorEq, dec_true, dec_false, decide_eq_true_eq, decide_eq_false_iff_not, Bool.not_eq_true', Bool.not_eq_false', Option.isNone_iff_eq_none, beq_true, beq_false, beq_iff_eq, beq_eq_false_iff_ne, ne_eq, decide_eq_decide, Bool.not_eq_true, Bool.not_eq_false, Decidable.not_not] at h); first | done | skip)))
    all_goals (first | (apply d_pass 6; (case hi => rfl); (case hg => rfl); (case hn => rfl); (case hf => kernel_rfl); (case hr => kernel_rfl); (case hd => rfl)) | (apply d_takeG 6; (case hi => rfl); (case hg => rfl); (case hop => first | (apply PureOp.read; apply p_move <;> rfl)); (case hf => kernel_rfl); (case hr => kernel_rfl); (case hd => rfl)) | fail)
    all_goals (try (apply d_guardB 7; (case hi => rfl); (case hgd => rfl); (case h1 => rfl); (case h2 => first | rfl); all_goals (intro h; (try simp only [reduceCtorEq, dec_true, dec_false, decide_eq_true_eq, decide_eq_false_iff_not, Bool.not_eq_true', Bool.not_eq_false', Option.isNone_iff_eq_none, beq_true, beq_false, beq_iff_eq, beq_eq_false_iff_ne, ne_eq, decide_eq_decide, Bool.not_eq_true, Bool.not_eq_false, Decidable.not_not] at h); first | done | skip)))
    all_goals (first | (apply d_pass 7; (case hi => rfl); (case hg => rfl); (case hn => rfl); (case hf => kernel_rfl); (case hr => kernel_rfl); (case hd => rfl)) | (apply d_takeG 7; (case hi => rfl); (case hg => rfl); (case hop => first | (apply PureOp.read; apply p_sub; (case hx => rfl); (case hy => rfl); (case h => omega))); (case hf => kernel_rfl); (case hr => kernel_rfl); (case hd => rfl)) | fail)
    all_goals (try (apply d_guardB 8; (case hi => rfl); (case hgd => rfl); (case h1 => rfl); (case h2 => first | rfl); all_goals (intro h; (try simp only [reduceCtorEq, dec_true, dec_false, decide_eq_true_eq, decide_eq_false_iff_not, Bool.not_eq_true', Bool.not_eq_false', Option.isNone_iff_eq_none, beq_true, beq_false, beq_iff_eq, beq_eq_false_iff_ne, ne_eq, decide_eq_decide, Bool.not_eq_true, Bool.not_eq_false, Decidable.not_not] at h); first | done | skip)))
    all_goals (first | (apply d_pass 8; (case hi => rfl); (case hg => rfl); (case hn => rfl); (case hf => kernel_rfl); (case hr => kernel_rfl); (case hd => rfl)) | (apply d_takeG 8; (case hi => rfl); (case hg => rfl); (case hop => first | (apply PureOp.read; apply p_indexAddrS; (case hx => rfl); (case hi => rfl); (case h0 => omega); (case h => omega); (case hA => first | assumption | fail))); (case hf => kernel_rfl); (case hr => kernel_rfl); (case hd => rfl)) | fail)
    all_goals (try (apply d_guardB 9; (case hi => rfl); (case hgd => rfl); (case h1 => rfl); (case h2 => first | rfl); all_goals (intro h; (try simp only [reduceCtorEq, dec_true, dec_false, decide_eq_true_eq, decide_eq_false_iff_not, Bool.not_eq_true', Bool.not_eq_false', Option.isNone_iff_eq_none, beq_true, beq_false, beq_iff_eq, beq_eq_false_iff_ne, ne_eq, decide_eq_decide, Bool.not_eq_true, Bool.not_eq_false, Decidable.not_not] at h); first | done | skip)))
    all_goals (first | (apply d_pass 9; (case hi => rfl); (case hg => rfl); (case hn => rfl); (case hf => kernel_rfl); (case hr => kernel_rfl); (case hd => rfl)) | (apply d_takeG 9; (case hi => rfl); (case hg => rfl); (case hop => first | (apply PureOp.read; apply p_fieldAddr <;> rfl)); (case hf => kernel_rfl); (case hr => kernel_rfl); (case hd => rfl)) | fail)
    all_goals (try (apply d_guardB 10; (case hi => rfl); (case hgd => rfl); (case h1 => rfl); (case h2 => first | rfl); all_goals (intro h; (try simp only [reduceCtorEq, dec_true, dec_false, decide_eq_true_eq, decide_eq_false_iff_not, Bool.not_eq_true', Bool.not_eq_false', Option.isNone_iff_eq_none, beq_true, beq_false, beq_iff_eq, beq_eq_false_iff_ne, ne_eq, decide_eq_decide, Bool.not_eq_true, Bool.not_eq_false, Decidable.not_not] at h); first | done | skip)))
    all_goals (first | (apply d_pass 10; (case hi => rfl); (case hg => rfl); (case hn => rfl); (case hf => kernel_rfl); (case hr => kernel_rfl); (case hd => rfl)) | (apply d_takeG 10; (case hi => rfl); (case hg => rfl); (case hop => first | ((apply r_load1; rfl; exact Cell.frozen (hpc (by omega)))) | fail); (case hf => kernel_rfl); (case hr => kernel_rfl); (case hd => rfl)) | fail)
    all_goals (try (apply d_guardB 11; (case hi => rfl); (case hgd => rfl); (case h1 => rfl); (case h2 => first | rfl); all_goals (intro h; (try simp only [reduceCtorEq, dec_true, dec_false, decide_eq_true_eq, decide_eq_false_iff_not, Bool.not_eq_true', Bool.not_eq_false', Option.isNone_iff_eq_none, beq_true, beq_false, beq_iff_eq, beq_eq_false_iff_ne, ne_eq, decide_eq_decide, Bool.not_eq_true, Bool.not_eq_false, Decidable.not_not] at h); first | done | skip)))
    all_goals (first | (apply d_pass 11; (case hi => rfl); (case hg => rfl); (case hn => rfl); (case hf => kernel_rfl); (case hr => kernel_rfl); (case hd => rfl)) | (apply d_takeG 11; (case hi => rfl); (case hg => rfl); (case hop => first | (apply PureOp.read; apply p_le <;> rfl)); (case hf => kernel_rfl); (case hr => kernel_rfl); (case hd => rfl)) | fail)
    all_goals (first | (apply d_take 12; (case hi => rfl); (case hop => first | (apply PureOp.read; apply p_pickT <;> rfl) | (apply PureOp.read; apply p_pickF <;> rfl) | fail); (case hf => kernel_rfl); (case hr => kernel_rfl); (case hd => rfl)) | fail)
    all_goals (apply d_done; (case hr => kernel_rfl))
    repeat' (first | apply v_seq | apply v_region | apply v_nil | apply v_skip | apply v_blk | (apply v_take; (case hg => rfl)) | (apply v_pass; (case hg => rfl); (case hn => rfl); (case hd => rfl)) | (apply v_pure; (case hop => first | (apply p_move <;> rfl) | (apply p_ne <;> rfl) | (apply p_assign <;> rfl) | (apply p_pickT <;> rfl) | (apply p_pickF <;> rfl) | (apply p_fieldAddrB <;> rfl) | (apply p_add; (case hx => rfl); (case hy => rfl); (case h => omega)) | fail); (case hd => rfl)) | (apply v_condT; (case hc => rfl)) | (apply v_condF; (case hc => rfl)) | (apply v_cond; (case hc => rfl); all_goals (intro h; (try simp only [reduceCtorEq, dec_true, dec_false, decide_eq_true_eq, decide_eq_false_iff_not, Bool.not_eq_true', Bool.not_eq_false', Option.isNone_iff_eq_none, beq_true, beq_false, beq_iff_eq, beq_eq_false_iff_ne, ne_eq, decide_eq_decide, Bool.not_eq_true, Bool.not_eq_false, Decidable.not_not] at h); first | skip)) | (apply v_guardB; (case h1 => rfl); (case h2 => rfl); all_goals (intro h; (try simp only [reduceCtorEq, dec_true, dec_false, decide_eq_true_eq, decide_eq_false_iff_not, Bool.not_eq_true', Bool.not_eq_false', Option.isNone_iff_eq_none, beq_true, beq_false, beq_iff_eq, beq_eq_false_iff_ne, ne_eq, decide_eq_decide, Bool.not_eq_true, Bool.not_eq_false, Decidable.not_not] at h); first | skip)) | (apply v_callJ (hs := qa); (case ha => rfl); (case hd => rfl)) | (apply v_read; (case hop => first | (apply r_loadNo; (case hx => rfl); (case h => (repeat (first | exact List.Mem.head _ | fail))); (case hd => (repeat (first | with_reducible exact dt_nil | apply dt_here | fail))); (case hn => rfl)) | (apply r_load1; rfl; (apply Cell.own; (case h => (repeat (first | exact List.Mem.head _ | fail))); rfl)) | fail); (case hd => rfl)) | fail)
    all_goals first
      | (refine v_drop (List.nil_sublist _) ?_
         refine v_again rfl ⟨rfl, rfl, k + 1, by omega, rfl, hnx (fun h0 => by omega) ⟨by omega, by omega, by omega⟩⟩ (by simp [headI]; omega))
      | (refine v_ret [] (outsA1 rfl rfl) (by repeat (first | exact List.nil_sublist _ | fail)) ?_
         refine ⟨?_, rfl⟩
         rw [if_neg]
         intro ho
         refine hin False ho ?_
         rintro ⟨a1, a2, a3, a4⟩
         first
           | omega
           | (have a5 := a1 (by omega); omega))
  · have hone : SesP l := ⟨fun i hi h0 => (hno i hi (by omega)).1 h0, fun x hx => by
      obtain ⟨i, hi, rfl⟩ := List.getElem_of_mem hx
      exact (hno i hi (by omega)).2⟩
    rw [if_pos hone]
    repeat' (first | apply v_seq | apply v_region | apply v_nil | (apply v_exit; (case hp => rfl)) | (apply v_pure; (case hop => first | (apply p_lt <;> rfl) | (apply p_assign <;> rfl) | fail); (case hd => rfl)) | (apply v_cond; (case hc => rfl); all_goals (intro h; (try simp only [reduceCtorEq, dec_true, dec_false, decide_eq_true_eq, decide_eq_false_iff_not, Bool.not_eq_true', Bool.not_eq_false', Option.isNone_iff_eq_none, beq_true, beq_false, beq_iff_eq, beq_eq_false_iff_ne, ne_eq, decide_eq_decide, Bool.not_eq_true, Bool.not_eq_false, Decidable.not_not] at h); first | (exfalso; omega) | skip)) | fail)
    refine v_ret [] (outsA1 rfl rfl) (by repeat (first | exact List.Sublist.refl _ | fail)) ?_
    exact ⟨rfl, rfl⟩
end Go.Proofs.YtgflmkhfachlcaaGreatDoor
/-
  sess (layer 22): what a command may be; sessions with an answer.
-/
set_option linter.unusedSimpArgs false
set_option linter.unusedVariables false
namespace Go.Proofs.YtgflmkhfachlcaaGreatDoor
open Go.Vx Go.ChangeShapes Go.WideShapes Go.ChangeAt Go.RowKit
theorem placeS_s {G : GH} {l : List Ss} {sv : Value} (n : Int) (hs : Sss G sv l) (hr : RiseG ksS l) : Con Tryz.prog 74 #[sv, .int .i64 n] G [] (Just (.tuple [.int .i64 (placeG ksS l n : Nat), .bool (hitG ksS l n)].toArray) G) := by
  have qs := ssSearch_s n hs hr
  apply Con.just
  (refine v_enter Tryz.func74 rfl Tryz.ntmps74 rfl ?_; intro B _)
  repeat' (first | apply v_seq | apply v_region | apply v_nil | (apply v_pure; (case hop => first | (apply p_move <;> rfl) | (apply p_assign <;> rfl) | (apply p_extract0 <;> rfl) | (apply p_extract1 <;> rfl) | fail); (case hd => rfl)) | (apply v_callJ (hs := qs); (case ha => rfl); (case hd => rfl)) | fail)
  refine v_ret [] (outsA2 rfl rfl rfl) (by repeat (first | exact List.Sublist.refl _ | fail)) ?_
  exact ⟨rfl, rfl⟩
def zA : An := ⟨0, 0, 0, false, ByteArray.empty, 0⟩
def zSs : Ss := ⟨0, 0, zA⟩
/-- A client's session; of nothing, if there is none. -/
def sesAt (l : List Ss) (n : Int) : Ss := if h : hitG ksS l n = true then l[placeG ksS l n]'(hitG_lt h) else zSs
def whichS (l : List Ss) (n seq : Int) : Int × An := if hitG ksS l n = false then (0, zA) else if (sesAt l n).seq < seq then (0, zA) else if seq = (sesAt l n).seq then (1, (sesAt l n).last) else (2, zA)
theorem which_s {G : GH} {l : List Ss} {sv : Value} (n seq : Int) (hs : Sss G sv l) (hr : RiseG ksS l) : Con Tryz.prog 54 #[sv, .int .i64 n, .int .i64 seq] G [] (Just (.tuple [.int .i64 (whichS l n seq).1, .agg (whichS l n seq).2.cells.toArray].toArray) G) := by
  have qs := placeS_s n hs hr
  obtain ⟨A, c, rfl, hlc, hcm, hsome, hcp⟩ := rowOpen hs
  simp only [maxLen] at hcm
  apply Con.just
  unfold whichS
  cases hh : hitG ksS l n with
  | false =>
    rw [hh] at qs
    rw [if_pos rfl]
    (refine v_enter Tryz.func54 rfl Tryz.ntmps54 rfl ?_; intro B _)
    repeat' (first | (apply v_alloc (d := 7); (case hz => rfl); (case hd => rfl); intro b7) | apply v_seq | apply v_region | apply v_nil | apply v_block | (apply v_pass; (case hg => rfl); (case hn => rfl); (case hd => rfl)) | (apply v_pure; (case hop => first | (apply p_move <;> rfl) | (apply p_assign <;> rfl) | (apply p_pickT <;> rfl) | (apply p_not <;> rfl) | (apply p_extract0 <;> rfl) | (apply p_extract1 <;> rfl) | (apply p_build; (case hz => rfl); (case hv => (simp only [List.map_cons, List.map_nil]; repeat (first | with_reducible exact evs_nil | fail))); (case hb => (apply bldL; repeat (first | exact bld_nil | fail)))) | fail); (case hd => rfl)) | (apply v_condT; (case hc => rfl)) | (apply v_callJ (hs := qs); (case ha => rfl); (case hd => rfl)) | (apply v_store; (case hp => rfl); (case hx => rfl); (case hc => rfl); (case hsz => rfl); (case h1 => rfl); (case hb => (repeat (first | exact List.Mem.head _ | fail))); (case hfit => first | exact Nat.le_of_ble_eq_true rfl | fail); (case hov => (first | ((repeat (first | with_reducible exact ov_nil | apply ov_cons | fail)); done) | fail)); (case hu => repeat (first | exact Upd.here _ _ | fail))) | fail)
    refine v_retM [] (outsM_tc (sz1 := 6) (vs1 := zA.cells) (e1 := 42) rfl rfl rfl (by repeat (first | exact List.Mem.head _ | fail)) rfl) (List.nil_sublist _) ⟨rfl, rfl⟩
  | true =>
    have hlt := hitG_lt hh
    have ef : sesAt l n = l[placeG ksS l n]'hlt := by unfold sesAt; rw [dif_pos hh]
    rw [hh] at qs
    rw [ef, if_neg (by simp)]
    have hck := hcp _ hlt
    have hA := hsome (by omega)
    clear ef
    generalize l[placeG ksS l n] = x at *
    generalize placeG ksS l n = i at *
    have e1 : ((i : Nat) : Int).toNat = i := by omega
    obtain ⟨xc, xs, ⟨lc, ls, le, lf, lv, lr⟩⟩ := x
    have hc1 := hck.cell (j := 1) rfl
    have hl : CellsG G (((adr A).add (i * 8)).add 2) (An.cells ⟨lc, ls, le, lf, lv, lr⟩) := fun j v hv => by
      rw [add_add]
      refine hck (2 + j) v ?_
      rw [Nat.add_comm]
      exact hv
    simp only at *
    (refine v_enter Tryz.func54 rfl Tryz.ntmps54 rfl ?_; intro B _)
    repeat' (first | (apply v_alloc (d := 7); (case hz => rfl); (case hd => rfl); intro b7) | apply v_seq | apply v_region | apply v_nil | apply v_skip | apply v_block | apply v_blk | (apply v_take; (case hg => rfl)) | (apply v_pure; (case hop => first | (apply p_move <;> rfl) | (apply p_eq <;> rfl) | (apply p_gt <;> rfl) | (apply p_assign <;> rfl) | (apply p_pickF <;> rfl) | (apply p_not <;> rfl) | (apply p_fieldAddr <;> rfl) | (apply p_extract0 <;> rfl) | (apply p_extract1 <;> rfl) | (apply p_indexAddrS; (case hx => rfl); (case hi => rfl); (case h0 => omega); (case h => omega); (case hA => first | assumption | fail)) | (apply p_build; (case hz => rfl); (case hv => (simp only [List.map_cons, List.map_nil]; repeat (first | with_reducible exact evs_nil | fail))); (case hb => (apply bldL; repeat (first | exact bld_nil | fail)))) | fail); (case hd => rfl)) | (apply v_cond; (case hc => rfl); all_goals (intro h; (try simp only [reduceCtorEq, dec_true, dec_false, decide_eq_true_eq, decide_eq_false_iff_not, Bool.not_eq_true', Bool.not_eq_false', Option.isNone_iff_eq_none, beq_true, beq_false, beq_iff_eq, beq_eq_false_iff_ne, ne_eq, decide_eq_decide, Bool.not_eq_true, Bool.not_eq_false, Decidable.not_not] at h); first | skip)) | (apply v_callJ (hs := qs); (case ha => rfl); (case hd => rfl)) | (apply v_read; (case hop => (apply r_load1; rfl; exact Cell.frozen hc1)); (case hd => rfl)) | (apply v_store; (case hp => rfl); (case hx => rfl); (case hc => rfl); (case hsz => rfl); (case h1 => rfl); (case hb => (repeat (first | exact List.Mem.head _ | fail))); (case hfit => first | exact Nat.le_of_ble_eq_true rfl | fail); (case hov => (first | ((repeat (first | with_reducible exact ov_nil | apply ov_cons | fail)); done) | fail)); (case hu => repeat (first | exact Upd.here _ _ | fail))) | fail)
    · rw [if_pos (by assumption)]
      refine v_retM [] (outsM_tc (sz1 := 6) (vs1 := zA.cells) (e1 := 42) rfl rfl rfl (by repeat (first | exact List.Mem.head _ | fail)) rfl) (List.nil_sublist _) ⟨rfl, rfl⟩
    · rw [if_neg (by assumption), if_pos (by assumption)]
      refine d_start [] (by kernel_rfl) (by kernel_rfl) (by kernel_rfl) (by intro e he; first | (simp at he ⊢; try omega)) ?_
      all_goals (first | (apply d_take 0; (case hi => rfl); (case hop => first | (apply PureOp.read; apply p_move <;> rfl)); (case hf => kernel_rfl); (case hr => kernel_rfl); (case hd => rfl)) | fail)
      all_goals (first | (apply d_take 1; (case hi => rfl); (case hop => first | (apply PureOp.read; apply p_move <;> rfl)); (case hf => kernel_rfl); (case hr => kernel_rfl); (case hd => rfl)) | fail)
      all_goals (first | (apply d_take 2; (case hi => rfl); (case hop => first | (apply PureOp.read; apply p_indexAddrS; (case hx => rfl); (case hi => rfl); (case h0 => omega); (case h => omega); (case hA => first | assumption | fail))); (case hf => kernel_rfl); (case hr => kernel_rfl); (case hd => rfl)) | fail)
      all_goals (first | (apply d_take 3; (case hi => rfl); (case hop => first | (apply PureOp.read; apply p_fieldAddr <;> rfl)); (case hf => kernel_rfl); (case hr => kernel_rfl); (case hd => rfl)) | fail)
      all_goals (first | (apply d_take 4; (case hi => rfl); (case hop => first | ((apply r_loadN; rfl; exact CellsAt.frozen hl; rfl)) | fail); (case hf => kernel_rfl); (case hr => kernel_rfl); (case hd => rfl)) | fail)
      all_goals (first | (apply d_take 5; (case hi => rfl); (case hop => first | (apply PureOp.read; apply p_assign <;> rfl)); (case hf => kernel_rfl); (case hr => kernel_rfl); (case hd => rfl)) | fail)
      all_goals (first | (apply d_store 6; (case hi => rfl); (case hr => kernel_rfl); (case hL => infer_instance); (case hp => rfl); (case hx => rfl); (case hc => rfl); (case hsz => rfl); (case h1 => rfl); (case hb => (repeat (first | exact List.Mem.head _ | fail))); (case hfit => first | exact Nat.le_of_ble_eq_true rfl | fail); (case hov => (first | ((repeat (first | with_reducible exact ov_nil | apply ov_cons | fail)); done) | fail)); (case hu => repeat (first | exact Upd.here _ _ | fail)); (case hν' => intro e he; first | (cases he; done) | fail)) | fail)
      all_goals (apply d_done; (case hr => kernel_rfl))
      repeat' (fail)
      refine v_retM [] (outsM_tc (sz1 := 6) (vs1 := An.cells ⟨lc, ls, le, lf, lv, lr⟩) (e1 := 42) rfl rfl rfl (by repeat (first | exact List.Mem.head _ | fail)) rfl) (List.nil_sublist _) ⟨rfl, rfl⟩
    · rw [if_neg (by assumption), if_neg (by assumption)]
      refine v_retM [] (outsM_tc (sz1 := 6) (vs1 := zA.cells) (e1 := 42) rfl rfl rfl (by repeat (first | exact List.Mem.head _ | fail)) rfl) (List.nil_sublist _) ⟨rfl, rfl⟩
def sesOf (a : An) : Ss := ⟨a.client, a.seq, a⟩
theorem withS_s {G : GH} {l : List Ss} {sv : Value} (a : An) (hs : Sss G sv l) (hr : RiseW ksS l) (hn : l.length ≤ 200) : Con Tryz.prog 57 #[sv, .agg a.cells.toArray] G [] (fun r G' μ' => G' = G ∧ GrS r (withG ksS l (sesOf a)) μ') := by
  have hrg := riseG_pw.2 hr
  have qp := placeS_s a.client hs hrg
  have qc := ssClone_s hs hn
  have hpl := placeG_le ksS l a.client
  have hw := ins_with hr (sesOf a)
  have ek : ksS (sesOf a) = a.client := rfl
  rw [ek] at hw
  rw [← hw]
  clear hw ek
  cases hh : hitG ksS l a.client with
  | true =>
    have hlt := hitG_lt hh
    rw [if_pos rfl]
    rw [hh] at qp
    have hov := fun sp => rowC_set Ss.len l _ hlt (sesOf a) sp
    generalize placeG ksS l a.client = i at *
    have hlen := rowC_length Ss.len l
    (refine v_enter Tryz.func57 rfl Tryz.ntmps57 rfl ?_; intro B _)
    repeat' (first | (apply v_box (zs := a.cells); (case hx => rfl); (case hz => rfl); (case hd => rfl); intro ba) | (apply v_alloc (d := 5); (case hz => rfl); (case hd => rfl); intro b5) | apply v_seq | apply v_region | apply v_nil | (apply v_pure; (case hop => first | (apply p_move <;> rfl) | (apply p_assign <;> rfl) | (apply p_fieldAddrB <;> rfl) | (apply p_extract0 <;> rfl) | (apply p_extract1 <;> rfl) | (apply p_build; (case hz => rfl); (case hv => (simp only [List.map_cons, List.map_nil]; repeat (first | with_reducible exact evs_nil | (apply evs_cons; (case h1 => rfl))))); (case hb => (apply bldL; repeat (first | exact bld_nil | (apply bld_cons; (case hpf => rfl); (case hc => rfl); (case hs => rfl); (case hl => rfl); (case ho => (first | ((repeat (first | with_reducible exact ov_nil | apply ov_cons | fail)); done) | fail)))))))); (case hd => rfl)) | (apply v_callJ (hs := qp); (case ha => rfl); (case hd => rfl)) | (apply v_read; (case hop => first | (apply r_loadNo; (case hx => rfl); (case h => (repeat (first | exact List.Mem.head _ | fail))); (case hd => (repeat (first | with_reducible exact dt_nil | apply dt_here | fail))); (case hn => rfl)) | (apply r_load1; rfl; (apply Cell.own; (case h => (repeat (first | exact List.Mem.head _ | apply List.Mem.tail | fail))); rfl)) | fail); (case hd => rfl)) | (apply v_store; (case hp => rfl); (case hx => rfl); (case hc => rfl); (case hsz => rfl); (case h1 => rfl); (case hb => (repeat (first | exact List.Mem.head _ | fail))); (case hfit => first | exact Nat.le_of_ble_eq_true rfl | fail); (case hov => (first | ((repeat (first | with_reducible exact ov_nil | apply ov_cons | fail)); done) | fail)); (case hu => repeat (first | exact Upd.here _ _ | fail))) | fail)
    refine v_call (μ1 := []) (μ2 := _) rfl qc (List.Perm.refl _) rfl ?_
    rintro v1 G1 ν1 - ⟨hG1, hg⟩
    subst hG1
    obtain ⟨hxl, ⟨rfl, h0, rfl⟩ | ⟨b, cap, spare, rfl, rfl, hc1, hc2, hc3⟩⟩ := hg
    · omega
    have hov := hov spare
    repeat' (first | (apply v_pure; (case hop => apply p_idxOwn2; (case hx => rfl); (case hi => rfl); (case h => omega)); (case hd => rfl)) | apply v_seq | apply v_region | apply v_nil | (apply v_pure; (case hop => first | (apply p_move <;> rfl) | (apply p_assign <;> rfl) | fail); (case hd => rfl)) | (apply v_condT; (case hc => rfl)) | (apply v_store (us := (sesOf a).cells); (case hp => rfl); (case hx => rfl); (case hc => rfl); (case hsz => rfl); (case h1 => rfl); (case hb => (repeat (first | exact List.Mem.head _ | fail))); (case hfit => rw [List.length_append, hlen, Ss.len]; omega); (case hov => exact hov); (case hu => (repeat (first | exact Upd.here _ _ | fail)))) | (apply v_read; (case hop => first | (apply r_loadNo; (case hx => rfl); (case h => (repeat (first | exact List.Mem.head _ | apply List.Mem.tail | fail))); (case hd => (repeat (first | with_reducible exact dt_nil | apply dt_here | fail))); (case hn => rfl)) | fail); (case hd => rfl)) | fail)
    refine v_ret [(b, _)] (outsA1 rfl rfl) (by repeat (first | exact List.nil_sublist _ | apply List.Sublist.cons_cons | fail)) ⟨rfl, ?_⟩
    have hsl : (l.set i (sesOf a)).length = l.length := List.length_set ..
    unfold GrS
    simp only [hsl]
    exact ⟨by rw [rowC_length Ss.len, hsl], .inr ⟨b, cap, spare, rfl, rfl, hc1, hc2, by rw [List.length_append, rowC_length Ss.len, hsl]; rw [List.length_append, hlen] at hc3; exact hc3⟩⟩
  | false =>
    rw [hh] at qp
    rw [if_neg (by simp)]
    have hq := fun (v : Value) (ν : OH) (hg : GrS v l ν) b2 => ssInsert_s (G := G) (sesOf a) b2 (placeG ksS l a.client) hg hpl hn
    have hil : (l.take (placeG ksS l a.client) ++ sesOf a :: l.drop (placeG ksS l a.client)).length = l.length + 1 := by
      rw [List.length_append, List.length_cons, List.length_take, List.length_drop]; omega
    generalize placeG ksS l a.client = i at *
    (refine v_enter Tryz.func57 rfl Tryz.ntmps57 rfl ?_; intro B _)
    repeat' (first | (apply v_box (zs := a.cells); (case hx => rfl); (case hz => rfl); (case hd => rfl); intro ba) | (apply v_alloc (d := 5); (case hz => rfl); (case hd => rfl); intro b5) | apply v_seq | apply v_region | apply v_nil | (apply v_pure; (case hop => first | (apply p_move <;> rfl) | (apply p_assign <;> rfl) | (apply p_fieldAddrB <;> rfl) | (apply p_extract0 <;> rfl) | (apply p_extract1 <;> rfl) | (apply p_build; (case hz => rfl); (case hv => (simp only [List.map_cons, List.map_nil]; repeat (first | with_reducible exact evs_nil | (apply evs_cons; (case h1 => rfl))))); (case hb => (apply bldL; repeat (first | exact bld_nil | (apply bld_cons; (case hpf => rfl); (case hc => rfl); (case hs => rfl); (case hl => rfl); (case ho => (first | ((repeat (first | with_reducible exact ov_nil | apply ov_cons | fail)); done) | fail)))))))); (case hd => rfl)) | (apply v_callJ (hs := qp); (case ha => rfl); (case hd => rfl)) | (apply v_read; (case hop => first | (apply r_loadNo; (case hx => rfl); (case h => (repeat (first | exact List.Mem.head _ | fail))); (case hd => (repeat (first | with_reducible exact dt_nil | apply dt_here | fail))); (case hn => rfl)) | (apply r_load1; rfl; (apply Cell.own; (case h => (repeat (first | exact List.Mem.head _ | apply List.Mem.tail | fail))); rfl)) | fail); (case hd => rfl)) | (apply v_store; (case hp => rfl); (case hx => rfl); (case hc => rfl); (case hsz => rfl); (case h1 => rfl); (case hb => (repeat (first | exact List.Mem.head _ | fail))); (case hfit => first | exact Nat.le_of_ble_eq_true rfl | fail); (case hov => (first | ((repeat (first | with_reducible exact ov_nil | apply ov_cons | fail)); done) | fail)); (case hu => repeat (first | exact Upd.here _ _ | fail))) | fail)
    refine v_call (μ1 := []) (μ2 := _) rfl qc (List.Perm.refl _) rfl ?_
    rintro v1 G1 ν1 - ⟨hG1, hg⟩
    subst hG1
    repeat' (first | apply v_seq | apply v_region | apply v_nil | apply v_skip | (apply v_pure; (case hop => first | (apply p_move <;> rfl) | (apply p_assign <;> rfl) | fail); (case hd => rfl)) | (apply v_condF; (case hc => rfl)) | (apply v_read; (case hop => first | (apply r_loadNo; (case hx => rfl); (case h => (repeat (first | exact List.Mem.head _ | apply List.mem_append_right))); (case hd => (repeat (first | with_reducible exact dt_nil | apply dt_here | fail))); (case hn => rfl)) | fail); (case hd => rfl)) | (apply v_buildSlice; (case hz => rfl); (case hi => rfl); (case hv => (simp only [List.map_cons, List.map_nil]; repeat (first | with_reducible exact evs_nil | (apply evs_cons; (case h1 => rfl))))); (case hp => (first | (apply pk_cons; (case hc => rfl); (case hs => rfl); (case h => (first | with_reducible exact pk_nil | fail)); (case he => (first | ((repeat (first | with_reducible exact ap_nil | apply ap_cons)); done) | fail))) | fail)); (case hb => rfl); (case hd => rfl); intro b) | fail)
    refine v_call (μ1 := ν1 ++ [(b, .cells (sesOf a).cells.toArray 55 (0, 0))]) (μ2 := [(b5, .cells (sesOf a).cells.toArray 55 (0, 0)), (ba, .cells a.cells.toArray 42 (0, 0))]) rfl (hq v1 ν1 hg b) ?_ rfl ?_
    · exact (by apply perm_of_count; intro p; simp only [List.append_eq, List.countP_append, List.countP_cons, List.countP_nil, Nat.zero_add, Nat.add_zero]; try ac_rfl)
    rintro v' G2 ν2 - ⟨hG2, hg2⟩
    subst hG2
    repeat' (first | apply v_nil | (apply v_pure; (case hop => first | (apply p_assign <;> rfl) | fail); (case hd => rfl)) | fail)
    refine v_ret ν2 (outsA1 rfl rfl) (List.sublist_append_left _ _) ⟨rfl, ?_⟩
    unfold GrS
    rw [hil]
    exact hg2
end Go.Proofs.YtgflmkhfachlcaaGreatDoor
/-
  vers (layer 7): which kinds of commands a version has; the reference's.
-/
set_option linter.unusedSimpArgs false
set_option linter.unusedVariables false
namespace Go.Proofs.YtgflmkhfachlcaaGreatDoor
open Go.Vx Go.ChangeShapes Go.WideShapes Go.ChangeAt Go.RowKit
theorem vMay_s (v : Int) (G : GH) : Con Tryz.prog 77 #[.int .i64 v] G [] (Just (.bool (decide (v = 1 ∨ v = 2))) G) := by
  (refine v_enter Tryz.func77 rfl Tryz.ntmps77 rfl ?_; intro B _)
  repeat' (first | apply v_seq | apply v_region | apply v_nil | apply v_skip | apply v_block | apply v_blk | (apply v_exit; (case hp => rfl)) | (apply v_pure; (case hop => first | (apply p_move <;> rfl) | (apply p_eq <;> rfl) | (apply p_assign <;> rfl) | fail); (case hd => rfl)) | (apply v_cond; (case hc => rfl); all_goals (intro h; (try simp only [reduceCtorEq, dec_true, dec_false, decide_eq_true_eq, decide_eq_false_iff_not, Bool.not_eq_true', Bool.not_eq_false', Option.isNone_iff_eq_none, beq_true, beq_false, beq_iff_eq, beq_eq_false_iff_ne, ne_eq, decide_eq_decide, Bool.not_eq_true, Bool.not_eq_false, Decidable.not_not] at h); first | skip)) | fail)
  all_goals (refine v_ret [] (outsA1 rfl rfl) (List.nil_sublist _) ?_; refine ⟨?_, rfl, rfl⟩)
  all_goals (congr 1; (try simp only [dec_eq]); first | (rw [Bool.eq_iff_iff]; simp only [decide_eq_true_eq, Bool.not_eq_true', decide_eq_false_iff_not, Bool.and_eq_true, Bool.or_eq_true, reduceCtorEq, true_iff, false_iff]; omega) | fail)
abbrev HasP (v k : Int) : Prop := (v = 1 ∨ v = 2) ∧ 1 ≤ k ∧ k ≤ 8 ∧ (k = 5 → v = 2)
theorem vHas_s (v k : Int) (G : GH) : Con Tryz.prog 56 #[.int .i64 v, .int .i64 k] G [] (Just (.bool (decide (HasP v k))) G) := by
  (refine v_enter Tryz.func56 rfl Tryz.ntmps56 rfl ?_; intro B _)
  repeat' (first | apply v_seq | apply v_region | apply v_nil | apply v_skip | apply v_block | apply v_blk | (apply v_pure; (case hop => first | (apply p_move <;> rfl) | (apply p_eq <;> rfl) | (apply p_ge <;> rfl) | (apply p_assign <;> rfl) | (apply p_not <;> rfl) | fail); (case hd => rfl)) | (apply v_cond; (case hc => rfl); all_goals (intro h; (try simp only [reduceCtorEq, dec_true, dec_false, decide_eq_true_eq, decide_eq_false_iff_not, Bool.not_eq_true', Bool.not_eq_false', Option.isNone_iff_eq_none, beq_true, beq_false, beq_iff_eq, beq_eq_false_iff_ne, ne_eq, decide_eq_decide, Bool.not_eq_true, Bool.not_eq_false, Decidable.not_not] at h); first | (exfalso; omega) | skip)) | (apply v_callJ (hs := vMay_s _ _); (case ha => rfl); (case hd => rfl)) | fail)
  all_goals (refine v_ret [] (outsA1 rfl rfl) (List.nil_sublist _) ?_; refine ⟨?_, rfl, rfl⟩)
  all_goals (congr 1; (try simp only [dec_eq]); first | (rw [Bool.eq_iff_iff]; simp only [decide_eq_true_eq, Bool.not_eq_true', decide_eq_false_iff_not, Bool.and_eq_true, Bool.or_eq_true, reduceCtorEq, true_iff, false_iff]; omega) | fail)
end Go.Proofs.YtgflmkhfachlcaaGreatDoor
/-
  app (layer 28): states; a client's command.
-/
set_option linter.unusedSimpArgs false
set_option linter.unusedVariables false
namespace Go.Proofs.YtgflmkhfachlcaaGreatDoor
open Go.Vx Go.ChangeShapes Go.WideShapes Go.ChangeAt Go.RowKit
structure St where
  schema : Int
  pairs : List Pr
  sess : List Ss
/-- A state in frozen memory. -/
def StV (G : GH) (s : St) (v : Value) : Prop := ∃ A c A' c', v = .agg [.int .i64 s.schema, .slice A s.pairs.length c, .slice A' s.sess.length c'].toArray ∧ Prs G (.slice A s.pairs.length c) s.pairs ∧ Sss G (.slice A' s.sess.length c') s.sess
theorem StV.up {G G' : GH} (hle : GH.le G G') {s : St} {v : Value} (h : StV G s v) : StV G' s v := by
  obtain ⟨A, c, A', c', h1, h2, h3⟩ := h
  exact ⟨A, c, A', c', h1, h2.mono hle, h3.mono hle⟩
theorem StV.mk' {G : GH} {z : Int} {lp : List Pr} {ls : List Ss} {pv sv : Value} (h1 : Prs G pv lp) (h2 : Sss G sv ls) : StV G ⟨z, lp, ls⟩ (.agg [.int .i64 z, pv, sv].toArray) := by
  obtain ⟨A, c, rfl, -⟩ := id h1.open
  obtain ⟨A', c', rfl, -⟩ := id h2.open
  exact ⟨A, c, A', c', rfl, h1, h2⟩
def verS (z : Int) : Int := if z = 1 then 1 else 2
theorem of1_s (G : GH) (z : Int) (pv sv : Value) (h1 : pv.cells = [pv].toArray) (h2 : sv.cells = [sv].toArray) (hz : z = 1) : Con Tryz.prog 55 #[.agg [.int .i64 z, pv, sv].toArray] G [] (Just (.agg [.int .i64 1, .func (.func 75) #[] #[]].toArray) G) := by
  apply Con.just
  (refine v_enter Tryz.func55 rfl Tryz.ntmps55 rfl ?_; intro B _)
  repeat' (first | (apply v_box (zs := [.int .i64 z, pv, sv]); (case hx => rfl); (case hz => rfl); (case hd => rfl); intro b) | (apply v_alloc (d := 2); (case hz => rfl); (case hd => rfl); intro b2) | apply v_seq | apply v_region | apply v_nil | (apply v_pure; (case hop => first | (apply p_eq <;> rfl) | (apply p_fieldAddrB <;> rfl) | (apply p_build; (case hz => rfl); (case hv => (simp only [List.map_cons, List.map_nil]; repeat (first | with_reducible exact evs_nil | (apply evs_cons; (case h1 => rfl))))); (case hb => (apply bldL; repeat (first | exact bld_nil | (apply bld_cons; (case hpf => rfl); (case hc => rfl); (case hs => rfl); (case hl => rfl); (case ho => (first | ((repeat (first | with_reducible exact ov_nil | apply ov_cons | fail)); done) | fail))))))) | fail); (case hd => rfl)) | (apply v_cond; (case hc => rfl); all_goals (intro h; (try simp only [reduceCtorEq, dec_true, dec_false, decide_eq_true_eq, decide_eq_false_iff_not, Bool.not_eq_true', Bool.not_eq_false', Option.isNone_iff_eq_none, beq_true, beq_false, beq_iff_eq, beq_eq_false_iff_ne, ne_eq, decide_eq_decide, Bool.not_eq_true, Bool.not_eq_false, Decidable.not_not] at h); first | (exfalso; omega) | skip)) | (apply v_read; (case hop => first | (apply r_load1; rfl; (apply Cell.own; (case h => (repeat (first | exact List.Mem.head _ | apply List.Mem.tail | fail))); rfl)) | fail); (case hd => rfl)) | (apply v_store; (case hp => rfl); (case hx => rfl); (case hc => rfl); (case hsz => rfl); (case h1 => rfl); (case hb => (repeat (first | exact List.Mem.head _ | fail))); (case hfit => first | exact Nat.le_of_ble_eq_true rfl | fail); (case hov => (first | ((repeat (first | with_reducible exact ov_nil | apply ov_cons | fail)); done) | fail)); (case hu => repeat (first | exact Upd.here _ _ | fail))) | fail)
  refine v_retM [] (outsM_cell (sz := 2) (vs := [.int .i64 1, .func (.func 75) #[] #[]]) (e := 92) rfl rfl (by (repeat (first | exact List.Mem.head _ | fail))) rfl) (List.nil_sublist _) ⟨rfl, rfl⟩
theorem of2_s (G : GH) (z : Int) (pv sv : Value) (h1 : pv.cells = [pv].toArray) (h2 : sv.cells = [sv].toArray) (hz : ¬ z = 1) : Con Tryz.prog 55 #[.agg [.int .i64 z, pv, sv].toArray] G [] (Just (.agg [.int .i64 2, .func (.func 76) #[] #[]].toArray) G) := by
  apply Con.just
  (refine v_enter Tryz.func55 rfl Tryz.ntmps55 rfl ?_; intro B _)
  repeat' (first | (apply v_box (zs := [.int .i64 z, pv, sv]); (case hx => rfl); (case hz => rfl); (case hd => rfl); intro b) | (apply v_alloc (d := 2); (case hz => rfl); (case hd => rfl); intro b2) | apply v_seq | apply v_region | apply v_nil | apply v_skip | (apply v_pure; (case hop => first | (apply p_eq <;> rfl) | (apply p_fieldAddrB <;> rfl) | (apply p_build; (case hz => rfl); (case hv => (simp only [List.map_cons, List.map_nil]; repeat (first | with_reducible exact evs_nil | (apply evs_cons; (case h1 => rfl))))); (case hb => (apply bldL; repeat (first | exact bld_nil | (apply bld_cons; (case hpf => rfl); (case hc => rfl); (case hs => rfl); (case hl => rfl); (case ho => (first | ((repeat (first | with_reducible exact ov_nil | apply ov_cons | fail)); done) | fail))))))) | fail); (case hd => rfl)) | (apply v_cond; (case hc => rfl); all_goals (intro h; (try simp only [reduceCtorEq, dec_true, dec_false, decide_eq_true_eq, decide_eq_false_iff_not, Bool.not_eq_true', Bool.not_eq_false', Option.isNone_iff_eq_none, beq_true, beq_false, beq_iff_eq, beq_eq_false_iff_ne, ne_eq, decide_eq_decide, Bool.not_eq_true, Bool.not_eq_false, Decidable.not_not] at h); first | (exfalso; omega) | skip)) | (apply v_read; (case hop => first | (apply r_load1; rfl; (apply Cell.own; (case h => (repeat (first | exact List.Mem.head _ | apply List.Mem.tail | fail))); rfl)) | fail); (case hd => rfl)) | (apply v_store; (case hp => rfl); (case hx => rfl); (case hc => rfl); (case hsz => rfl); (case h1 => rfl); (case hb => (repeat (first | exact List.Mem.head _ | fail))); (case hfit => first | exact Nat.le_of_ble_eq_true rfl | fail); (case hov => (first | ((repeat (first | with_reducible exact ov_nil | apply ov_cons | fail)); done) | fail)); (case hu => repeat (first | exact Upd.here _ _ | fail))) | fail)
  refine v_retM [] (outsM_cell (sz := 2) (vs := [.int .i64 2, .func (.func 76) #[] #[]]) (e := 92) rfl rfl (by (repeat (first | exact List.Mem.head _ | fail))) rfl) (List.nil_sublist _) ⟨rfl, rfl⟩
noncomputable def doS (z : Int) (l : List Pr) (c : Cm) : List Pr × An := if z = 1 then doOne l c else doTwo l c

noncomputable def clientS (s : St) (c : Cm) : St × An :=
  if (whichS s.sess c.client c.seq).1 = 1 then (s, (whichS s.sess c.client c.seq).2)
  else if (whichS s.sess c.client c.seq).1 = 2 then (s, { ans0 c with err := 15 })
  else if HasP (verS s.schema) c.kind then (⟨s.schema, (doS s.schema s.pairs c).1, withG ksS s.sess (sesOf (doS s.schema s.pairs c).2)⟩, (doS s.schema s.pairs c).2)
  else (s, { ans0 c with err := 14 })
/-- What a walk asks of a state. -/
def StW (s : St) : Prop := RiseW ksP s.pairs ∧ Sized s.pairs ∧ s.pairs.length ≤ 150 ∧ (∀ x ∈ s.pairs, 0 ≤ x.rev) ∧ RiseW ksS s.sess ∧ s.sess.length ≤ 200
def CmW (c : Cm) : Prop := c.key.size ≤ 200 ∧ c.val.size ≤ 200
theorem client_s {G : GH} {s : St} {v : Value} (c : Cm) (hs : StV G s v) (hw : StW s) (hc : CmW c) :
    Con Tryz.prog 34 #[v, .agg c.cells.toArray] G [] (fun r G' μ' => GH.le G G' ∧ μ' = [] ∧ ∃ v', r = .tuple [v', .agg (clientS s c).2.cells.toArray].toArray ∧ StV G' (clientS s c).1 v') := by
  obtain ⟨A, c0, A', c', rfl, hp, hss⟩ := id hs
  obtain ⟨w1, w2, w3, w4, w5, w6⟩ := hw
  have qw := which_s c.client c.seq hss (riseG_pw.2 w5)
  have qh := vHas_s (verS s.schema) c.kind G
  have qd1 := doOne_s c hp w1 w2 hc.1 w3
  have qd2 := doTwo_s c hp w1 w2 hc.1 hc.2 w3 w4
  have qs := fun G' (hle : GH.le G G') a => withS_s a (hss.mono hle) w5 w6
  have hd1 : s.schema = 1 → doS s.schema s.pairs c = doOne s.pairs c := fun h => by unfold doS; rw [if_pos h]
  have hd2 : ¬ s.schema = 1 → doS s.schema s.pairs c = doTwo s.pairs c := fun h => by unfold doS; rw [if_neg h]
  have hv1 : s.schema = 1 → verS s.schema = 1 := fun h => by unfold verS; rw [if_pos h]
  have hv2 : ¬ s.schema = 1 → verS s.schema = 2 := fun h => by unfold verS; rw [if_neg h]
  have qo1 := of1_s G s.schema (.slice A s.pairs.length c0) (.slice A' s.sess.length c') rfl rfl
  have qo2 := of2_s G s.schema (.slice A s.pairs.length c0) (.slice A' s.sess.length c') rfl rfl
  unfold clientS
  generalize whichS s.sess c.client c.seq = w at *
  obtain ⟨wk, wa⟩ := w
  generalize doS s.schema s.pairs c = dd at *
  generalize verS s.schema = vv at *
  obtain ⟨schema, lp, ls⟩ := s
  obtain ⟨kind, cl, seq, key, val, old, node⟩ := c
  simp only at *
  clear w1 w2 w4 w5 hc
  obtain ⟨l1, d⟩ := dd
  generalize hpl : lp.length = pl at *
  generalize hsl : ls.length = sl at *
  (refine v_enter Tryz.func34 rfl Tryz.ntmps34 rfl ?_; intro B _)
  by_cases hz : schema = 1
  · have qo := qo1 hz
    have hdd := hd1 hz
    have hvv := hv1 hz
    subst hvv
    repeat' (first | (apply v_box (d := 2) (zs := [.int .i64 schema, .slice A pl c0, .slice A' sl c']); (case hx => rfl); (case hz => rfl); (case hd => rfl); intro b2) | (apply v_box (d := 3) (zs := (Cm.cells ⟨kind, cl, seq, key, val, old, node⟩)); (case hx => rfl); (case hz => rfl); (case hd => rfl); intro b3) | (apply v_alloc (d := 4); (case hz => rfl); (case hd => rfl); intro b4) | (apply v_alloc (d := 5); (case hz => rfl); (case hd => rfl); intro b5) | (apply v_alloc (d := 7); (case hz => rfl); (case hd => rfl); intro b7) | (apply v_alloc (d := 8); (case hz => rfl); (case hd => rfl); intro b8) | (apply v_alloc (d := 9); (case hz => rfl); (case hd => rfl); intro b9) | (apply v_read; (case hop => (apply r_loadNo; (case hx => rfl); (case h => repeat (first | exact List.Mem.head _ | apply List.Mem.tail | fail)); (case hd => rfl); (case hn => rfl))); (case hd => rfl)) | apply v_seq | apply v_region | apply v_nil | apply v_skip | apply v_block | apply v_blk | (apply v_pure; (case hop => first | (apply p_move <;> rfl) | (apply p_eq <;> rfl) | (apply p_assign <;> rfl) | (apply p_not <;> rfl) | (apply p_fieldAddrB <;> rfl) | (apply p_extract0 <;> rfl) | (apply p_extract1 <;> rfl) | (apply p_build; (case hz => rfl); (case hv => (simp only [List.map_cons, List.map_nil]; repeat (first | with_reducible exact evs_nil | (apply evs_cons; (case h1 => rfl))))); (case hb => (apply bldL; repeat (first | exact bld_nil | (apply bld_cons; (case hpf => rfl); (case hc => rfl); (case hs => rfl); (case hl => rfl); (case ho => (first | ((repeat (first | with_reducible exact ov_nil | apply ov_cons | fail)); done) | fail))))))) | fail); (case hd => rfl)) | (apply v_cond; (case hc => rfl); all_goals (intro h; (try simp only [reduceCtorEq, dec_true, dec_false, decide_eq_true_eq, decide_eq_false_iff_not, Bool.not_eq_true', Bool.not_eq_false', Option.isNone_iff_eq_none, beq_true, beq_false, beq_iff_eq, beq_eq_false_iff_ne, ne_eq, decide_eq_decide, Bool.not_eq_true, Bool.not_eq_false, Decidable.not_not] at h); first | skip)) | (apply v_callJ (hs := qw); (case ha => rfl); (case hd => rfl)) | (apply v_callJ (hs := qo); (case ha => rfl); (case hd => rfl)) | (apply v_callJ (hs := qh); (case ha => rfl); (case hd => rfl)) | (apply v_read; (case hop => first | (apply r_load1; rfl; (apply Cell.own; (case h => (repeat (first | exact List.Mem.head _ | apply List.Mem.tail | fail))); rfl)) | fail); (case hd => rfl)) | (apply v_store; (case hp => rfl); (case hx => rfl); (case hc => rfl); (case hsz => rfl); (case h1 => rfl); (case hb => (repeat (first | exact List.Mem.head _ | apply List.Mem.tail | fail))); (case hfit => first | exact Nat.le_of_ble_eq_true rfl | fail); (case hov => (first | ((repeat (first | with_reducible exact ov_nil | apply ov_cons | fail)); done) | fail)); (case hu => repeat (first | exact Upd.here _ _ | apply Upd.there | fail))) | fail)
    · rw [if_pos (by assumption)]
      refine d_start [(b2, .cells [.int .i64 schema, .slice A pl c0, .slice A' sl c'].toArray 25 (0, 0)), (b7, .cells [.int .i64 wa.client, .int .i64 wa.seq, .int .i64 wa.err, .bool wa.found, .string wa.val, .int .i64 wa.rev].toArray 42 (0, 0))] (by kernel_rfl) (by kernel_rfl) (by kernel_rfl) (by intro e he; first | (simp only [List.mem_cons, List.not_mem_nil, or_false] at he; rcases he with rfl | rfl <;> simp; done) | fail) ?_
      all_goals (first | (apply d_take 0; (case hi => rfl); (case hop => first   | (apply r_loadNo; (case hx => rfl); (case h => (repeat (first | exact List.Mem.head _ | fail))); (case hd => (repeat (first | with_reducible exact dt_nil | apply dt_here | fail))); (case hn => rfl)) | (apply r_load1; rfl; (apply Cell.own; (case h => (repeat (fail))); rfl)) | (apply r_loadN; rfl; (apply CellsAt.own; (case h => (repeat (fail)))); rfl)); (case hf => kernel_rfl); (case hr => kernel_rfl); (case hd => rfl)) | fail)
      all_goals (first | (apply d_take 1; (case hi => rfl); (case hop => first   | (apply r_loadNo; (case hx => rfl); (case h => (repeat (first | exact List.Mem.head _ | apply List.Mem.tail | fail))); (case hd => (repeat (first | with_reducible exact dt_nil | apply dt_here | fail))); (case hn => rfl)) | (apply r_load1; rfl; (apply Cell.own; (case h => (repeat (fail))); rfl)) | (apply r_loadN; rfl; (apply CellsAt.own; (case h => (repeat (fail)))); rfl)); (case hf => kernel_rfl); (case hr => kernel_rfl); (case hd => rfl)) | fail)
      all_goals (first | (apply d_store 2; (case hi => rfl); (case hr => kernel_rfl); (case hL => infer_instance); (case hp => rfl); (case hx => rfl); (case hc => rfl); (case hsz => rfl); (case h1 => rfl); (case hb => (repeat (first | exact List.Mem.head _ | apply List.Mem.tail | fail))); (case hfit => first | exact Nat.le_of_ble_eq_true rfl | fail); (case hov => (first | ((repeat (first | with_reducible exact ov_nil | apply ov_cons | fail)); done) | fail)); (case hu => repeat (first | exact Upd.here _ _ | apply Upd.there | fail)); (case hν' => intro e he; first | (simp only [List.mem_cons, List.not_mem_nil, or_false] at he; rcases he with rfl | rfl <;> simp; done) | fail)) | fail)
      all_goals (first | (apply d_store 3; (case hi => rfl); (case hr => kernel_rfl); (case hL => infer_instance); (case hp => rfl); (case hx => rfl); (case hc => rfl); (case hsz => rfl); (case h1 => rfl); (case hb => (repeat (first | exact List.Mem.head _ | apply List.Mem.tail | fail))); (case hfit => first | exact Nat.le_of_ble_eq_true rfl | fail); (case hov => (first | ((repeat (first | with_reducible exact ov_nil | apply ov_cons | fail)); done) | fail)); (case hu => repeat (first | exact Upd.here _ _ | apply Upd.there | fail)); (case hν' => intro e he; first | (simp only [List.mem_cons, List.not_mem_nil, or_false] at he; rcases he with rfl | rfl <;> simp; done) | fail)) | fail)
      all_goals (apply d_done; (case hr => kernel_rfl))
      repeat' (fail)
      refine v_retM [] (outsM_cc (sz0 := 3) (vs0 := [.int .i64 schema, .slice A pl c0, .slice A' sl c']) (e0 := 25) (sz1 := 6) (vs1 := [.int .i64 wa.client, .int .i64 wa.seq, .int .i64 wa.err, .bool wa.found, .string wa.val, .int .i64 wa.rev]) (e1 := 42) rfl rfl (by repeat (first | exact List.Mem.head _ | apply List.Mem.tail | fail)) rfl rfl (by repeat (first | exact List.Mem.head _ | apply List.Mem.tail | fail)) rfl) (List.nil_sublist _) ⟨GH.le_refl _, rfl, _, rfl, A, c0, A', c', by subst hpl hsl; rfl, by subst hpl; exact hp, by subst hsl; exact hss⟩
    · rw [if_neg (by assumption), if_pos (by assumption)]
      refine d_start [(b2, .cells [.int .i64 schema, .slice A pl c0, .slice A' sl c'].toArray 25 (0, 0)), (b8, .cells [.int .i64 cl, .int .i64 seq, .int .i64 15, .bool false, .string ByteArray.empty, .int .i64 0].toArray 42 (0, 0))] (by kernel_rfl) (by kernel_rfl) (by kernel_rfl) (by intro e he; first | (simp only [List.mem_cons, List.not_mem_nil, or_false] at he; rcases he with rfl | rfl <;> simp; done) | fail) ?_
      all_goals (first | (apply d_take 0; (case hi => rfl); (case hop => first   | (apply r_loadNo; (case hx => rfl); (case h => (repeat (first | exact List.Mem.head _ | fail))); (case hd => (repeat (first | with_reducible exact dt_nil | apply dt_here | fail))); (case hn => rfl)) | (apply r_load1; rfl; (apply Cell.own; (case h => (repeat (fail))); rfl)) | (apply r_loadN; rfl; (apply CellsAt.own; (case h => (repeat (fail)))); rfl)); (case hf => kernel_rfl); (case hr => kernel_rfl); (case hd => rfl)) | fail)
      all_goals (first | (apply d_take 1; (case hi => rfl); (case hop => first   | (apply r_loadNo; (case hx => rfl); (case h => (repeat (first | exact List.Mem.head _ | apply List.Mem.tail | fail))); (case hd => (repeat (first | with_reducible exact dt_nil | apply dt_here | fail))); (case hn => rfl)) | (apply r_load1; rfl; (apply Cell.own; (case h => (repeat (fail))); rfl)) | (apply r_loadN; rfl; (apply CellsAt.own; (case h => (repeat (fail)))); rfl)); (case hf => kernel_rfl); (case hr => kernel_rfl); (case hd => rfl)) | fail)
      all_goals (first | (apply d_store 2; (case hi => rfl); (case hr => kernel_rfl); (case hL => infer_instance); (case hp => rfl); (case hx => rfl); (case hc => rfl); (case hsz => rfl); (case h1 => rfl); (case hb => (repeat (first | exact List.Mem.head _ | apply List.Mem.tail | fail))); (case hfit => first | exact Nat.le_of_ble_eq_true rfl | fail); (case hov => (first | ((repeat (first | with_reducible exact ov_nil | apply ov_cons | fail)); done) | fail)); (case hu => repeat (first | exact Upd.here _ _ | apply Upd.there | fail)); (case hν' => intro e he; first | (simp only [List.mem_cons, List.not_mem_nil, or_false] at he; rcases he with rfl | rfl <;> simp; done) | fail)) | fail)
      all_goals (first | (apply d_store 3; (case hi => rfl); (case hr => kernel_rfl); (case hL => infer_instance); (case hp => rfl); (case hx => rfl); (case hc => rfl); (case hsz => rfl); (case h1 => rfl); (case hb => (repeat (first | exact List.Mem.head _ | apply List.Mem.tail | fail))); (case hfit => first | exact Nat.le_of_ble_eq_true rfl | fail); (case hov => (first | ((repeat (first | with_reducible exact ov_nil | apply ov_cons | fail)); done) | fail)); (case hu => repeat (first | exact Upd.here _ _ | apply Upd.there | fail)); (case hν' => intro e he; first | (simp only [List.mem_cons, List.not_mem_nil, or_false] at he; rcases he with rfl | rfl <;> simp; done) | fail)) | fail)
      all_goals (apply d_done; (case hr => kernel_rfl))
      repeat' (fail)
      refine v_retM [] (outsM_cc (sz0 := 3) (vs0 := [.int .i64 schema, .slice A pl c0, .slice A' sl c']) (e0 := 25) (sz1 := 6) (vs1 := [.int .i64 cl, .int .i64 seq, .int .i64 15, .bool false, .string ByteArray.empty, .int .i64 0]) (e1 := 42) rfl rfl (by repeat (first | exact List.Mem.head _ | apply List.Mem.tail | fail)) rfl rfl (by repeat (first | exact List.Mem.head _ | apply List.Mem.tail | fail)) rfl) (List.nil_sublist _) ⟨GH.le_refl _, rfl, _, rfl, A, c0, A', c', by subst hpl hsl; rfl, by subst hpl; exact hp, by subst hsl; exact hss⟩
    · rw [if_neg (by assumption), if_neg (by assumption), if_neg (by assumption)]
      refine d_start [(b2, .cells [.int .i64 schema, .slice A pl c0, .slice A' sl c'].toArray 25 (0, 0)), (b8, .cells [.int .i64 cl, .int .i64 seq, .int .i64 14, .bool false, .string ByteArray.empty, .int .i64 0].toArray 42 (0, 0))] (by kernel_rfl) (by kernel_rfl) (by kernel_rfl) (by intro e he; first | (simp only [List.mem_cons, List.not_mem_nil, or_false] at he; rcases he with rfl | rfl <;> simp; done) | fail) ?_
      all_goals (first | (apply d_take 0; (case hi => rfl); (case hop => first   | (apply r_loadNo; (case hx => rfl); (case h => (repeat (first | exact List.Mem.head _ | fail))); (case hd => (repeat (first | with_reducible exact dt_nil | apply dt_here | fail))); (case hn => rfl)) | (apply r_load1; rfl; (apply Cell.own; (case h => (repeat (fail))); rfl)) | (apply r_loadN; rfl; (apply CellsAt.own; (case h => (repeat (fail)))); rfl)); (case hf => kernel_rfl); (case hr => kernel_rfl); (case hd => rfl)) | fail)
      all_goals (first | (apply d_take 1; (case hi => rfl); (case hop => first   | (apply r_loadNo; (case hx => rfl); (case h => (repeat (first | exact List.Mem.head _ | apply List.Mem.tail | fail))); (case hd => (repeat (first | with_reducible exact dt_nil | apply dt_here | fail))); (case hn => rfl)) | (apply r_load1; rfl; (apply Cell.own; (case h => (repeat (fail))); rfl)) | (apply r_loadN; rfl; (apply CellsAt.own; (case h => (repeat (fail)))); rfl)); (case hf => kernel_rfl); (case hr => kernel_rfl); (case hd => rfl)) | fail)
      all_goals (first | (apply d_store 2; (case hi => rfl); (case hr => kernel_rfl); (case hL => infer_instance); (case hp => rfl); (case hx => rfl); (case hc => rfl); (case hsz => rfl); (case h1 => rfl); (case hb => (repeat (first | exact List.Mem.head _ | apply List.Mem.tail | fail))); (case hfit => first | exact Nat.le_of_ble_eq_true rfl | fail); (case hov => (first | ((repeat (first | with_reducible exact ov_nil | apply ov_cons | fail)); done) | fail)); (case hu => repeat (first | exact Upd.here _ _ | apply Upd.there | fail)); (case hν' => intro e he; first | (simp only [List.mem_cons, List.not_mem_nil, or_false] at he; rcases he with rfl | rfl <;> simp; done) | fail)) | fail)
      all_goals (first | (apply d_store 3; (case hi => rfl); (case hr => kernel_rfl); (case hL => infer_instance); (case hp => rfl); (case hx => rfl); (case hc => rfl); (case hsz => rfl); (case h1 => rfl); (case hb => (repeat (first | exact List.Mem.head _ | apply List.Mem.tail | fail))); (case hfit => first | exact Nat.le_of_ble_eq_true rfl | fail); (case hov => (first | ((repeat (first | with_reducible exact ov_nil | apply ov_cons | fail)); done) | fail)); (case hu => repeat (first | exact Upd.here _ _ | apply Upd.there | fail)); (case hν' => intro e he; first | (simp only [List.mem_cons, List.not_mem_nil, or_false] at he; rcases he with rfl | rfl <;> simp; done) | fail)) | fail)
      all_goals (apply d_done; (case hr => kernel_rfl))
      repeat' (fail)
      refine v_retM [] (outsM_cc (sz0 := 3) (vs0 := [.int .i64 schema, .slice A pl c0, .slice A' sl c']) (e0 := 25) (sz1 := 6) (vs1 := [.int .i64 cl, .int .i64 seq, .int .i64 14, .bool false, .string ByteArray.empty, .int .i64 0]) (e1 := 42) rfl rfl (by repeat (first | exact List.Mem.head _ | apply List.Mem.tail | fail)) rfl rfl (by repeat (first | exact List.Mem.head _ | apply List.Mem.tail | fail)) rfl) (List.nil_sublist _) ⟨GH.le_refl _, rfl, _, rfl, A, c0, A', c', by subst hpl hsl; rfl, by subst hpl; exact hp, by subst hsl; exact hss⟩
    · rw [if_neg (by assumption), if_neg (by assumption), if_pos (by assumption)]
      refine v_callF0 (μ1 := []) rfl rfl qd1 (List.Perm.refl _) rfl ?_
      rintro _ G1 ν1 - ⟨hG1, v2, rfl, hg2⟩
      subst hG1
      rw [← hdd] at hg2 ⊢
      simp only at hg2 ⊢
      refine v_frz ν1 (PickA.here _) ?_
      intro G2 hle2 hG2
      have hp2 := row_of_grow Pr.len hg2 hG2
      obtain ⟨A2, c2, rfl, -⟩ := id hp2.open
      have qs2 := qs G2 hle2 d
      generalize hlw : withG ksS ls (sesOf d) = lw at *
      repeat' (first | (apply v_alloc (d := 11); (case hz => rfl); (case hd => rfl); intro b11) | (apply v_read; (case hop => (apply r_loadNo; (case hx => rfl); (case h => repeat (first | exact List.Mem.head _ | fail)); (case hd => rfl); (case hn => rfl))); (case hd => rfl)) | apply v_seq | apply v_region | apply v_nil | (apply v_pure; (case hop => first | (apply p_move <;> rfl) | (apply p_assign <;> rfl) | (apply p_fieldAddrB <;> rfl) | (apply p_extract0 <;> rfl) | (apply p_extract1 <;> rfl) | fail); (case hd => rfl)) | (apply v_read; (case hop => first | (apply r_load1; rfl; (apply Cell.own; (case h => (repeat (first | exact List.Mem.head _ | apply List.Mem.tail | fail))); rfl)) | fail); (case hd => rfl)) | (apply v_store; (case hp => rfl); (case hx => rfl); (case hc => rfl); (case hsz => rfl); (case h1 => rfl); (case hb => (repeat (first | exact List.Mem.head _ | apply List.Mem.tail | fail))); (case hfit => first | exact Nat.le_of_ble_eq_true rfl | fail); (case hov => (first | ((repeat (first | with_reducible exact ov_nil | apply ov_cons | fail)); done) | fail)); (case hu => repeat (first | exact Upd.here _ _ | apply Upd.there | fail))) | fail)
      refine v_call (μ1 := []) rfl qs2 (List.Perm.refl _) rfl ?_
      rintro v3 G3 ν3 - ⟨hG3, hg3⟩
      subst hG3
      refine v_frz ν3 (PickA.here _) ?_
      intro G4 hle4 hG4
      have hs4 := row_of_grow Ss.len hg3 hG4
      obtain ⟨A3, c3, rfl, -⟩ := id hs4.open
      repeat' (first | apply v_seq | apply v_nil | (apply v_pure; (case hop => first | (apply p_fieldAddrB <;> rfl) | fail); (case hd => rfl)) | (apply v_store; (case hp => rfl); (case hx => rfl); (case hc => rfl); (case hsz => rfl); (case h1 => rfl); (case hb => (repeat (first | exact List.Mem.head _ | apply List.Mem.tail | fail))); (case hfit => first | exact Nat.le_of_ble_eq_true rfl | fail); (case hov => (first | ((repeat (first | with_reducible exact ov_nil | apply ov_cons | fail)); done) | fail)); (case hu => repeat (first | exact Upd.here _ _ | apply Upd.there | fail))) | fail)
      refine d_start [(b2, .cells [.int .i64 schema, .slice A2 l1.length c2, .slice A3 lw.length c3].toArray 25 (0, 0)), (b11, .cells [.int .i64 d.client, .int .i64 d.seq, .int .i64 d.err, .bool d.found, .string d.val, .int .i64 d.rev].toArray 42 (0, 0))] (by kernel_rfl) (by kernel_rfl) (by kernel_rfl) (by intro e he; first | (simp only [List.mem_cons, List.not_mem_nil, or_false] at he; rcases he with rfl | rfl <;> simp; done) | fail) ?_
      all_goals (first | (apply d_take 0; (case hi => rfl); (case hop => first   | (apply r_loadNo; (case hx => rfl); (case h => (repeat (first | exact List.Mem.head _ | fail))); (case hd => (repeat (first | with_reducible exact dt_nil | apply dt_here | fail))); (case hn => rfl)) | (apply r_load1; rfl; (apply Cell.own; (case h => (repeat (fail))); rfl)) | (apply r_loadN; rfl; (apply CellsAt.own; (case h => (repeat (fail)))); rfl)); (case hf => kernel_rfl); (case hr => kernel_rfl); (case hd => rfl)) | fail)
      all_goals (first | (apply d_take 1; (case hi => rfl); (case hop => first   | (apply r_loadNo; (case hx => rfl); (case h => (repeat (first | exact List.Mem.head _ | apply List.Mem.tail | fail))); (case hd => (repeat (first | with_reducible exact dt_nil | apply dt_here | fail))); (case hn => rfl)) | (apply r_load1; rfl; (apply Cell.own; (case h => (repeat (fail))); rfl)) | (apply r_loadN; rfl; (apply CellsAt.own; (case h => (repeat (fail)))); rfl)); (case hf => kernel_rfl); (case hr => kernel_rfl); (case hd => rfl)) | fail)
      all_goals (first | (apply d_store 2; (case hi => rfl); (case hr => kernel_rfl); (case hL => infer_instance); (case hp => rfl); (case hx => rfl); (case hc => rfl); (case hsz => rfl); (case h1 => rfl); (case hb => (repeat (first | exact List.Mem.head _ | apply List.Mem.tail | fail))); (case hfit => first | exact Nat.le_of_ble_eq_true rfl | fail); (case hov => (first | ((repeat (first | with_reducible exact ov_nil | apply ov_cons | fail)); done) | fail)); (case hu => repeat (first | exact Upd.here _ _ | apply Upd.there | fail)); (case hν' => intro e he; first | (simp only [List.mem_cons, List.not_mem_nil, or_false] at he; rcases he with rfl | rfl <;> simp; done) | fail)) | fail)
      all_goals (first | (apply d_store 3; (case hi => rfl); (case hr => kernel_rfl); (case hL => infer_instance); (case hp => rfl); (case hx => rfl); (case hc => rfl); (case hsz => rfl); (case h1 => rfl); (case hb => (repeat (first | exact List.Mem.head _ | apply List.Mem.tail | fail))); (case hfit => first | exact Nat.le_of_ble_eq_true rfl | fail); (case hov => (first | ((repeat (first | with_reducible exact ov_nil | apply ov_cons | fail)); done) | fail)); (case hu => repeat (first | exact Upd.here _ _ | apply Upd.there | fail)); (case hν' => intro e he; first | (simp only [List.mem_cons, List.not_mem_nil, or_false] at he; rcases he with rfl | rfl <;> simp; done) | fail)) | fail)
      all_goals (apply d_done; (case hr => kernel_rfl))
      repeat' (fail)
      refine v_retM [] (outsM_cc (sz0 := 3) (vs0 := [.int .i64 schema, .slice A2 l1.length c2, .slice A3 lw.length c3]) (e0 := 25) (sz1 := 6) (vs1 := [.int .i64 d.client, .int .i64 d.seq, .int .i64 d.err, .bool d.found, .string d.val, .int .i64 d.rev]) (e1 := 42) rfl rfl (by repeat (first | exact List.Mem.head _ | apply List.Mem.tail | fail)) rfl rfl (by repeat (first | exact List.Mem.head _ | apply List.Mem.tail | fail)) rfl) (List.nil_sublist _) ⟨GH.le_trans hle2 hle4, rfl, _, rfl, A2, c2, A3, c3, rfl, hp2.mono hle4, hs4⟩
  · have qo := qo2 hz
    have hdd := hd2 hz
    have hvv := hv2 hz
    subst hvv
    repeat' (first | (apply v_box (d := 2) (zs := [.int .i64 schema, .slice A pl c0, .slice A' sl c']); (case hx => rfl); (case hz => rfl); (case hd => rfl); intro b2) | (apply v_box (d := 3) (zs := (Cm.cells ⟨kind, cl, seq, key, val, old, node⟩)); (case hx => rfl); (case hz => rfl); (case hd => rfl); intro b3) | (apply v_alloc (d := 4); (case hz => rfl); (case hd => rfl); intro b4) | (apply v_alloc (d := 5); (case hz => rfl); (case hd => rfl); intro b5) | (apply v_alloc (d := 7); (case hz => rfl); (case hd => rfl); intro b7) | (apply v_alloc (d := 8); (case hz => rfl); (case hd => rfl); intro b8) | (apply v_alloc (d := 9); (case hz => rfl); (case hd => rfl); intro b9) | (apply v_read; (case hop => (apply r_loadNo; (case hx => rfl); (case h => repeat (first | exact List.Mem.head _ | apply List.Mem.tail | fail)); (case hd => rfl); (case hn => rfl))); (case hd => rfl)) | apply v_seq | apply v_region | apply v_nil | apply v_skip | apply v_block | apply v_blk | (apply v_pure; (case hop => first | (apply p_move <;> rfl) | (apply p_eq <;> rfl) | (apply p_assign <;> rfl) | (apply p_not <;> rfl) | (apply p_fieldAddrB <;> rfl) | (apply p_extract0 <;> rfl) | (apply p_extract1 <;> rfl) | (apply p_build; (case hz => rfl); (case hv => (simp only [List.map_cons, List.map_nil]; repeat (first | with_reducible exact evs_nil | (apply evs_cons; (case h1 => rfl))))); (case hb => (apply bldL; repeat (first | exact bld_nil | (apply bld_cons; (case hpf => rfl); (case hc => rfl); (case hs => rfl); (case hl => rfl); (case ho => (first | ((repeat (first | with_reducible exact ov_nil | apply ov_cons | fail)); done) | fail))))))) | fail); (case hd => rfl)) | (apply v_cond; (case hc => rfl); all_goals (intro h; (try simp only [reduceCtorEq, dec_true, dec_false, decide_eq_true_eq, decide_eq_false_iff_not, Bool.not_eq_true', Bool.not_eq_false', Option.isNone_iff_eq_none, beq_true, beq_false, beq_iff_eq, beq_eq_false_iff_ne, ne_eq, decide_eq_decide, Bool.not_eq_true, Bool.not_eq_false, Decidable.not_not] at h); first | skip)) | (apply v_callJ (hs := qw); (case ha => rfl); (case hd => rfl)) | (apply v_callJ (hs := qo); (case ha => rfl); (case hd => rfl)) | (apply v_callJ (hs := qh); (case ha => rfl); (case hd => rfl)) | (apply v_read; (case hop => first | (apply r_load1; rfl; (apply Cell.own; (case h => (repeat (first | exact List.Mem.head _ | apply List.Mem.tail | fail))); rfl)) | fail); (case hd => rfl)) | (apply v_store; (case hp => rfl); (case hx => rfl); (case hc => rfl); (case hsz => rfl); (case h1 => rfl); (case hb => (repeat (first | exact List.Mem.head _ | apply List.Mem.tail | fail))); (case hfit => first | exact Nat.le_of_ble_eq_true rfl | fail); (case hov => (first | ((repeat (first | with_reducible exact ov_nil | apply ov_cons | fail)); done) | fail)); (case hu => repeat (first | exact Upd.here _ _ | apply Upd.there | fail))) | fail)
    · rw [if_pos (by assumption)]
      refine d_start [(b2, .cells [.int .i64 schema, .slice A pl c0, .slice A' sl c'].toArray 25 (0, 0)), (b7, .cells [.int .i64 wa.client, .int .i64 wa.seq, .int .i64 wa.err, .bool wa.found, .string wa.val, .int .i64 wa.rev].toArray 42 (0, 0))] (by kernel_rfl) (by kernel_rfl) (by kernel_rfl) (by intro e he; first | (simp only [List.mem_cons, List.not_mem_nil, or_false] at he; rcases he with rfl | rfl <;> simp; done) | fail) ?_
      all_goals (first | (apply d_take 0; (case hi => rfl); (case hop => first   | (apply r_loadNo; (case hx => rfl); (case h => (repeat (first | exact List.Mem.head _ | fail))); (case hd => (repeat (first | with_reducible exact dt_nil | apply dt_here | fail))); (case hn => rfl)) | (apply r_load1; rfl; (apply Cell.own; (case h => (repeat (fail))); rfl)) | (apply r_loadN; rfl; (apply CellsAt.own; (case h => (repeat (fail)))); rfl)); (case hf => kernel_rfl); (case hr => kernel_rfl); (case hd => rfl)) | fail)
      all_goals (first | (apply d_take 1; (case hi => rfl); (case hop => first   | (apply r_loadNo; (case hx => rfl); (case h => (repeat (first | exact List.Mem.head _ | apply List.Mem.tail | fail))); (case hd => (repeat (first | with_reducible exact dt_nil | apply dt_here | fail))); (case hn => rfl)) | (apply r_load1; rfl; (apply Cell.own; (case h => (repeat (fail))); rfl)) | (apply r_loadN; rfl; (apply CellsAt.own; (case h => (repeat (fail)))); rfl)); (case hf => kernel_rfl); (case hr => kernel_rfl); (case hd => rfl)) | fail)
      all_goals (first | (apply d_store 2; (case hi => rfl); (case hr => kernel_rfl); (case hL => infer_instance); (case hp => rfl); (case hx => rfl); (case hc => rfl); (case hsz => rfl); (case h1 => rfl); (case hb => (repeat (first | exact List.Mem.head _ | apply List.Mem.tail | fail))); (case hfit => first | exact Nat.le_of_ble_eq_true rfl | fail); (case hov => (first | ((repeat (first | with_reducible exact ov_nil | apply ov_cons | fail)); done) | fail)); (case hu => repeat (first | exact Upd.here _ _ | apply Upd.there | fail)); (case hν' => intro e he; first | (simp only [List.mem_cons, List.not_mem_nil, or_false] at he; rcases he with rfl | rfl <;> simp; done) | fail)) | fail)
      all_goals (first | (apply d_store 3; (case hi => rfl); (case hr => kernel_rfl); (case hL => infer_instance); (case hp => rfl); (case hx => rfl); (case hc => rfl); (case hsz => rfl); (case h1 => rfl); (case hb => (repeat (first | exact List.Mem.head _ | apply List.Mem.tail | fail))); (case hfit => first | exact Nat.le_of_ble_eq_true rfl | fail); (case hov => (first | ((repeat (first | with_reducible exact ov_nil | apply ov_cons | fail)); done) | fail)); (case hu => repeat (first | exact Upd.here _ _ | apply Upd.there | fail)); (case hν' => intro e he; first | (simp only [List.mem_cons, List.not_mem_nil, or_false] at he; rcases he with rfl | rfl <;> simp; done) | fail)) | fail)
      all_goals (apply d_done; (case hr => kernel_rfl))
      repeat' (fail)
      refine v_retM [] (outsM_cc (sz0 := 3) (vs0 := [.int .i64 schema, .slice A pl c0, .slice A' sl c']) (e0 := 25) (sz1 := 6) (vs1 := [.int .i64 wa.client, .int .i64 wa.seq, .int .i64 wa.err, .bool wa.found, .string wa.val, .int .i64 wa.rev]) (e1 := 42) rfl rfl (by repeat (first | exact List.Mem.head _ | apply List.Mem.tail | fail)) rfl rfl (by repeat (first | exact List.Mem.head _ | apply List.Mem.tail | fail)) rfl) (List.nil_sublist _) ⟨GH.le_refl _, rfl, _, rfl, A, c0, A', c', by subst hpl hsl; rfl, by subst hpl; exact hp, by subst hsl; exact hss⟩
    · rw [if_neg (by assumption), if_pos (by assumption)]
      refine d_start [(b2, .cells [.int .i64 schema, .slice A pl c0, .slice A' sl c'].toArray 25 (0, 0)), (b8, .cells [.int .i64 cl, .int .i64 seq, .int .i64 15, .bool false, .string ByteArray.empty, .int .i64 0].toArray 42 (0, 0))] (by kernel_rfl) (by kernel_rfl) (by kernel_rfl) (by intro e he; first | (simp only [List.mem_cons, List.not_mem_nil, or_false] at he; rcases he with rfl | rfl <;> simp; done) | fail) ?_
      all_goals (first | (apply d_take 0; (case hi => rfl); (case hop => first   | (apply r_loadNo; (case hx => rfl); (case h => (repeat (first | exact List.Mem.head _ | fail))); (case hd => (repeat (first | with_reducible exact dt_nil | apply dt_here | fail))); (case hn => rfl)) | (apply r_load1; rfl; (apply Cell.own; (case h => (repeat (fail))); rfl)) | (apply r_loadN; rfl; (apply CellsAt.own; (case h => (repeat (fail)))); rfl)); (case hf => kernel_rfl); (case hr => kernel_rfl); (case hd => rfl)) | fail)
      all_goals (first | (apply d_take 1; (case hi => rfl); (case hop => first   | (apply r_loadNo; (case hx => rfl); (case h => (repeat (first | exact List.Mem.head _ | apply List.Mem.tail | fail))); (case hd => (repeat (first | with_reducible exact dt_nil | apply dt_here | fail))); (case hn => rfl)) | (apply r_load1; rfl; (apply Cell.own; (case h => (repeat (fail))); rfl)) | (apply r_loadN; rfl; (apply CellsAt.own; (case h => (repeat (fail)))); rfl)); (case hf => kernel_rfl); (case hr => kernel_rfl); (case hd => rfl)) | fail)
      all_goals (first | (apply d_store 2; (case hi => rfl); (case hr => kernel_rfl); (case hL => infer_instance); (case hp => rfl); (case hx => rfl); (case hc => rfl); (case hsz => rfl); (case h1 => rfl); (case hb => (repeat (first | exact List.Mem.head _ | apply List.Mem.tail | fail))); (case hfit => first | exact Nat.le_of_ble_eq_true rfl | fail); (case hov => (first | ((repeat (first | with_reducible exact ov_nil | apply ov_cons | fail)); done) | fail)); (case hu => repeat (first | exact Upd.here _ _ | apply Upd.there | fail)); (case hν' => intro e he; first | (simp only [List.mem_cons, List.not_mem_nil, or_false] at he; rcases he with rfl | rfl <;> simp; done) | fail)) | fail)
      all_goals (first | (apply d_store 3; (case hi => rfl); (case hr => kernel_rfl); (case hL => infer_instance); (case hp => rfl); (case hx => rfl); (case hc => rfl); (case hsz => rfl); (case h1 => rfl); (case hb => (repeat (first | exact List.Mem.head _ | apply List.Mem.tail | fail))); (case hfit => first | exact Nat.le_of_ble_eq_true rfl | fail); (case hov => (first | ((repeat (first | with_reducible exact ov_nil | apply ov_cons | fail)); done) | fail)); (case hu => repeat (first | exact Upd.here _ _ | apply Upd.there | fail)); (case hν' => intro e he; first | (simp only [List.mem_cons, List.not_mem_nil, or_false] at he; rcases he with rfl | rfl <;> simp; done) | fail)) | fail)
      all_goals (apply d_done; (case hr => kernel_rfl))
      repeat' (fail)
      refine v_retM [] (outsM_cc (sz0 := 3) (vs0 := [.int .i64 schema, .slice A pl c0, .slice A' sl c']) (e0 := 25) (sz1 := 6) (vs1 := [.int .i64 cl, .int .i64 seq, .int .i64 15, .bool false, .string ByteArray.empty, .int .i64 0]) (e1 := 42) rfl rfl (by repeat (first | exact List.Mem.head _ | apply List.Mem.tail | fail)) rfl rfl (by repeat (first | exact List.Mem.head _ | apply List.Mem.tail | fail)) rfl) (List.nil_sublist _) ⟨GH.le_refl _, rfl, _, rfl, A, c0, A', c', by subst hpl hsl; rfl, by subst hpl; exact hp, by subst hsl; exact hss⟩
    · rw [if_neg (by assumption), if_neg (by assumption), if_neg (by assumption)]
      refine d_start [(b2, .cells [.int .i64 schema, .slice A pl c0, .slice A' sl c'].toArray 25 (0, 0)), (b8, .cells [.int .i64 cl, .int .i64 seq, .int .i64 14, .bool false, .string ByteArray.empty, .int .i64 0].toArray 42 (0, 0))] (by kernel_rfl) (by kernel_rfl) (by kernel_rfl) (by intro e he; first | (simp only [List.mem_cons, List.not_mem_nil, or_false] at he; rcases he with rfl | rfl <;> simp; done) | fail) ?_
      all_goals (first | (apply d_take 0; (case hi => rfl); (case hop => first   | (apply r_loadNo; (case hx => rfl); (case h => (repeat (first | exact List.Mem.head _ | fail))); (case hd => (repeat (first | with_reducible exact dt_nil | apply dt_here | fail))); (case hn => rfl)) | (apply r_load1; rfl; (apply Cell.own; (case h => (repeat (fail))); rfl)) | (apply r_loadN; rfl; (apply CellsAt.own; (case h => (repeat (fail)))); rfl)); (case hf => kernel_rfl); (case hr => kernel_rfl); (case hd => rfl)) | fail)
      all_goals (first | (apply d_take 1; (case hi => rfl); (case hop => first   | (apply r_loadNo; (case hx => rfl); (case h => (repeat (first | exact List.Mem.head _ | apply List.Mem.tail | fail))); (case hd => (repeat (first | with_reducible exact dt_nil | apply dt_here | fail))); (case hn => rfl)) | (apply r_load1; rfl; (apply Cell.own; (case h => (repeat (fail))); rfl)) | (apply r_loadN; rfl; (apply CellsAt.own; (case h => (repeat (fail)))); rfl)); (case hf => kernel_rfl); (case hr => kernel_rfl); (case hd => rfl)) | fail)
      all_goals (first | (apply d_store 2; (case hi => rfl); (case hr => kernel_rfl); (case hL => infer_instance); (case hp => rfl); (case hx => rfl); (case hc => rfl); (case hsz => rfl); (case h1 => rfl); (case hb => (repeat (first | exact List.Mem.head _ | apply List.Mem.tail | fail))); (case hfit => first | exact Nat.le_of_ble_eq_true rfl | fail); (case hov => (first | ((repeat (first | with_reducible exact ov_nil | apply ov_cons | fail)); done) | fail)); (case hu => repeat (first | exact Upd.here _ _ | apply Upd.there | fail)); (case hν' => intro e he; first | (simp only [List.mem_cons, List.not_mem_nil, or_false] at he; rcases he with rfl | rfl <;> simp; done) | fail)) | fail)
      all_goals (first | (apply d_store 3; (case hi => rfl); (case hr => kernel_rfl); (case hL => infer_instance); (case hp => rfl); (case hx => rfl); (case hc => rfl); (case hsz => rfl); (case h1 => rfl); (case hb => (repeat (first | exact List.Mem.head _ | apply List.Mem.tail | fail))); (case hfit => first | exact Nat.le_of_ble_eq_true rfl | fail); (case hov => (first | ((repeat (first | with_reducible exact ov_nil | apply ov_cons | fail)); done) | fail)); (case hu => repeat (first | exact Upd.here _ _ | apply Upd.there | fail)); (case hν' => intro e he; first | (simp only [List.mem_cons, List.not_mem_nil, or_false] at he; rcases he with rfl | rfl <;> simp; done) | fail)) | fail)
      all_goals (apply d_done; (case hr => kernel_rfl))
      repeat' (fail)
      refine v_retM [] (outsM_cc (sz0 := 3) (vs0 := [.int .i64 schema, .slice A pl c0, .slice A' sl c']) (e0 := 25) (sz1 := 6) (vs1 := [.int .i64 cl, .int .i64 seq, .int .i64 14, .bool false, .string ByteArray.empty, .int .i64 0]) (e1 := 42) rfl rfl (by repeat (first | exact List.Mem.head _ | apply List.Mem.tail | fail)) rfl rfl (by repeat (first | exact List.Mem.head _ | apply List.Mem.tail | fail)) rfl) (List.nil_sublist _) ⟨GH.le_refl _, rfl, _, rfl, A, c0, A', c', by subst hpl hsl; rfl, by subst hpl; exact hp, by subst hsl; exact hss⟩
    · rw [if_neg (by assumption), if_neg (by assumption), if_pos (by assumption)]
      refine v_callF0 (μ1 := []) rfl rfl qd2 (List.Perm.refl _) rfl ?_
      rintro _ G1 ν1 - ⟨hG1, v2, rfl, hg2⟩
      subst hG1
      rw [← hdd] at hg2 ⊢
      simp only at hg2 ⊢
      refine v_frz ν1 (PickA.here _) ?_
      intro G2 hle2 hG2
      have hp2 := row_of_grow Pr.len hg2 hG2
      obtain ⟨A2, c2, rfl, -⟩ := id hp2.open
      have qs2 := qs G2 hle2 d
      generalize hlw : withG ksS ls (sesOf d) = lw at *
      repeat' (first | (apply v_alloc (d := 11); (case hz => rfl); (case hd => rfl); intro b11) | (apply v_read; (case hop => (apply r_loadNo; (case hx => rfl); (case h => repeat (first | exact List.Mem.head _ | fail)); (case hd => rfl); (case hn => rfl))); (case hd => rfl)) | apply v_seq | apply v_region | apply v_nil | (apply v_pure; (case hop => first | (apply p_move <;> rfl) | (apply p_assign <;> rfl) | (apply p_fieldAddrB <;> rfl) | (apply p_extract0 <;> rfl) | (apply p_extract1 <;> rfl) | fail); (case hd => rfl)) | (apply v_read; (case hop => first | (apply r_load1; rfl; (apply Cell.own; (case h => (repeat (first | exact List.Mem.head _ | apply List.Mem.tail | fail))); rfl)) | fail); (case hd => rfl)) | (apply v_store; (case hp => rfl); (case hx => rfl); (case hc => rfl); (case hsz => rfl); (case h1 => rfl); (case hb => (repeat (first | exact List.Mem.head _ | apply List.Mem.tail | fail))); (case hfit => first | exact Nat.le_of_ble_eq_true rfl | fail); (case hov => (first | ((repeat (first | with_reducible exact ov_nil | apply ov_cons | fail)); done) | fail)); (case hu => repeat (first | exact Upd.here _ _ | apply Upd.there | fail))) | fail)
      refine v_call (μ1 := []) rfl qs2 (List.Perm.refl _) rfl ?_
      rintro v3 G3 ν3 - ⟨hG3, hg3⟩
      subst hG3
      refine v_frz ν3 (PickA.here _) ?_
      intro G4 hle4 hG4
      have hs4 := row_of_grow Ss.len hg3 hG4
      obtain ⟨A3, c3, rfl, -⟩ := id hs4.open
      repeat' (first | apply v_seq | apply v_nil | (apply v_pure; (case hop => first | (apply p_fieldAddrB <;> rfl) | fail); (case hd => rfl)) | (apply v_store; (case hp => rfl); (case hx => rfl); (case hc => rfl); (case hsz => rfl); (case h1 => rfl); (case hb => (repeat (first | exact List.Mem.head _ | apply List.Mem.tail | fail))); (case hfit => first | exact Nat.le_of_ble_eq_true rfl | fail); (case hov => (first | ((repeat (first | with_reducible exact ov_nil | apply ov_cons | fail)); done) | fail)); (case hu => repeat (first | exact Upd.here _ _ | apply Upd.there | fail))) | fail)
      refine d_start [(b2, .cells [.int .i64 schema, .slice A2 l1.length c2, .slice A3 lw.length c3].toArray 25 (0, 0)), (b11, .cells [.int .i64 d.client, .int .i64 d.seq, .int .i64 d.err, .bool d.found, .string d.val, .int .i64 d.rev].toArray 42 (0, 0))] (by kernel_rfl) (by kernel_rfl) (by kernel_rfl) (by intro e he; first | (simp only [List.mem_cons, List.not_mem_nil, or_false] at he; rcases he with rfl | rfl <;> simp; done) | fail) ?_
      all_goals (first | (apply d_take 0; (case hi => rfl); (case hop => first   | (apply r_loadNo; (case hx => rfl); (case h => (repeat (first | exact List.Mem.head _ | fail))); (case hd => (repeat (first | with_reducible exact dt_nil | apply dt_here | fail))); (case hn => rfl)) | (apply r_load1; rfl; (apply Cell.own; (case h => (repeat (fail))); rfl)) | (apply r_loadN; rfl; (apply CellsAt.own; (case h => (repeat (fail)))); rfl)); (case hf => kernel_rfl); (case hr => kernel_rfl); (case hd => rfl)) | fail)
      all_goals (first | (apply d_take 1; (case hi => rfl); (case hop => first   | (apply r_loadNo; (case hx => rfl); (case h => (repeat (first | exact List.Mem.head _ | apply List.Mem.tail | fail))); (case hd => (repeat (first | with_reducible exact dt_nil | apply dt_here | fail))); (case hn => rfl)) | (apply r_load1; rfl; (apply Cell.own; (case h => (repeat (fail))); rfl)) | (apply r_loadN; rfl; (apply CellsAt.own; (case h => (repeat (fail)))); rfl)); (case hf => kernel_rfl); (case hr => kernel_rfl); (case hd => rfl)) | fail)
      all_goals (first | (apply d_store 2; (case hi => rfl); (case hr => kernel_rfl); (case hL => infer_instance); (case hp => rfl); (case hx => rfl); (case hc => rfl); (case hsz => rfl); (case h1 => rfl); (case hb => (repeat (first | exact List.Mem.head _ | apply List.Mem.tail | fail))); (case hfit => first | exact Nat.le_of_ble_eq_true rfl | fail); (case hov => (first | ((repeat (first | with_reducible exact ov_nil | apply ov_cons | fail)); done) | fail)); (case hu => repeat (first | exact Upd.here _ _ | apply Upd.there | fail)); (case hν' => intro e he; first | (simp only [List.mem_cons, List.not_mem_nil, or_false] at he; rcases he with rfl | rfl <;> simp; done) | fail)) | fail)
      all_goals (first | (apply d_store 3; (case hi => rfl); (case hr => kernel_rfl); (case hL => infer_instance); (case hp => rfl); (case hx => rfl); (case hc => rfl); (case hsz => rfl); (case h1 => rfl); (case hb => (repeat (first | exact List.Mem.head _ | apply List.Mem.tail | fail))); (case hfit => first | exact Nat.le_of_ble_eq_true rfl | fail); (case hov => (first | ((repeat (first | with_reducible exact ov_nil | apply ov_cons | fail)); done) | fail)); (case hu => repeat (first | exact Upd.here _ _ | apply Upd.there | fail)); (case hν' => intro e he; first | (simp only [List.mem_cons, List.not_mem_nil, or_false] at he; rcases he with rfl | rfl <;> simp; done) | fail)) | fail)
      all_goals (apply d_done; (case hr => kernel_rfl))
      repeat' (fail)
      refine v_retM [] (outsM_cc (sz0 := 3) (vs0 := [.int .i64 schema, .slice A2 l1.length c2, .slice A3 lw.length c3]) (e0 := 25) (sz1 := 6) (vs1 := [.int .i64 d.client, .int .i64 d.seq, .int .i64 d.err, .bool d.found, .string d.val, .int .i64 d.rev]) (e1 := 42) rfl rfl (by repeat (first | exact List.Mem.head _ | apply List.Mem.tail | fail)) rfl rfl (by repeat (first | exact List.Mem.head _ | apply List.Mem.tail | fail)) rfl) (List.nil_sublist _) ⟨GH.le_trans hle2 hle4, rfl, _, rfl, A2, c2, A3, c3, rfl, hp2.mono hle4, hs4⟩
end Go.Proofs.YtgflmkhfachlcaaGreatDoor
/-
  migr (layer 25): whether a state may be; a copy of a state.
-/
set_option linter.unusedSimpArgs false
set_option linter.unusedVariables false
namespace Go.Proofs.YtgflmkhfachlcaaGreatDoor
open Go.Vx Go.ChangeShapes Go.WideShapes Go.ChangeAt Go.RowKit
def StP (s : St) : Prop := SesP s.sess ∧ ((s.schema = 1 ∧ s.sess.any revS = false ∧ OneP s.pairs) ∨ (s.schema = 2 ∧ TwoP s.pairs))
noncomputable instance (s : St) : Decidable (StP s) := Classical.propDecidable _
/-- What the laws' bounds leave of a state. -/
def StZ (s : St) : Prop := Sized s.pairs ∧ SizedS s.sess ∧ s.pairs.length ≤ 150 ∧ s.sess.length ≤ 150
theorem migCheck_s {G : GH} (hT : TabsG G) {s : St} {v : Value} (hs : StV G s v) (hz : StZ s) : Con Tryz.prog 22 #[v] G [] (Just (.int .i64 (if StP s then 0 else 3)) G) := by
  obtain ⟨A, c, A', c', rfl, hp, hss⟩ := id hs
  obtain ⟨z1, z2, z3, z4⟩ := hz
  have q1 := sesCheck_s hT hss z2
  have q2 := oneCheck_s hT hp z1
  have q3 := twoCheck_s hT hp z1 (by omega)
  have q4 := ssRevHas_s hss
  have hst : StP s ↔ SesP s.sess ∧ ((s.schema = 1 ∧ s.sess.any revS = false ∧ OneP s.pairs) ∨ (s.schema = 2 ∧ TwoP s.pairs)) := Iff.rfl
  apply Con.just
  generalize hi : (if StP s then (0 : Int) else 3) = iv
  have hyes : StP s → iv = 0 := fun h => by rw [← hi, if_pos h]
  have hnot : ¬ StP s → iv = 3 := fun h => by rw [← hi, if_neg h]
  rw [hst] at hyes hnot
  clear hi hst
  obtain ⟨schema, lp, ls⟩ := s
  simp only at *
  generalize hr : ls.any revS = rb at *
  generalize lp.length = pl at *
  generalize ls.length = sl at *
  (refine v_enter Tryz.func22 rfl Tryz.ntmps22 rfl ?_; intro B _)
  by_cases h1 : SesP ls
  · rw [if_pos h1] at q1
    by_cases h2 : OneP lp
    all_goals by_cases h3 : TwoP lp
    all_goals
      (first | rw [if_pos h2] at q2 | rw [if_neg h2] at q2)
      (first | rw [if_pos h3] at q3 | rw [if_neg h3] at q3)
      repeat' (first | (apply v_box (zs := [.int .i64 schema, .slice A pl c, .slice A' sl c']); (case hx => rfl); (case hz => rfl); (case hd => rfl); intro b) | apply v_seq | apply v_region | apply v_nil | apply v_skip | apply v_block | apply v_blk | (apply v_exit; (case hp => rfl)) | (apply v_take; (case hg => rfl)) | (apply v_pass; (case hg => rfl); (case hn => rfl); (case hd => rfl)) | (apply v_passN; (case hg => rfl); (case hn => rfl); (case hd => rfl)) | (apply v_pure; (case hop => first | (apply p_move <;> rfl) | (apply p_eqs <;> rfl) | (apply p_nes <;> rfl) | (apply p_eqBs <;> rfl) | (apply p_neBs <;> rfl) | (apply p_eq <;> rfl) | (apply p_ne <;> rfl) | (apply p_assign <;> rfl) | (apply p_fieldAddrB <;> rfl) | (apply p_fieldAddr <;> rfl) | (apply p_eqB <;> rfl) | (apply p_neB <;> rfl) | (apply p_eqNil <;> rfl) | (apply p_neNil <;> rfl) | (apply p_eqS <;> rfl) | (apply p_neS <;> rfl) | (apply p_eqNilSlice <;> rfl) | (apply p_neNilSlice <;> rfl)); (case hd => rfl)) | (apply v_condT; (case hc => rfl)) | (apply v_condF; (case hc => rfl)) | (apply v_cond; (case hc => rfl); all_goals (intro h; (try simp only [reduceCtorEq, dec_true, dec_false, decide_eq_true_eq, decide_eq_false_iff_not, Bool.not_eq_true', Bool.not_eq_false', Option.isNone_iff_eq_none, beq_true, beq_false, beq_iff_eq, beq_eq_false_iff_ne, ne_eq, decide_eq_decide, Bool.not_eq_true, Bool.not_eq_false, Decidable.not_not] at h); first | done | (exfalso; omega) | (exfalso; exact h (by with_reducible assumption)) | (exfalso; revert h; rw [imp_false]; with_reducible assumption) | skip)) | (apply v_guardB; (case h1 => rfl); (case h2 => rfl); all_goals (intro h; (try simp only [reduceCtorEq, dec_true, dec_false, decide_eq_true_eq, decide_eq_false_iff_not, Bool.not_eq_true', Bool.not_eq_false', Option.isNone_iff_eq_none, beq_true, beq_false, beq_iff_eq, beq_eq_false_iff_ne, ne_eq, decide_eq_decide, Bool.not_eq_true, Bool.not_eq_false, Decidable.not_not] at h); first | done | (exfalso; omega) | (exfalso; exact h (by with_reducible assumption)) | (exfalso; revert h; rw [imp_false]; with_reducible assumption) | skip)) | (apply v_callJ (hs := q1); (case ha => rfl); (case hd => rfl)) | (apply v_callJ (hs := q2); (case ha => rfl); (case hd => rfl)) | (apply v_callJ (hs := q3); (case ha => rfl); (case hd => rfl)) | (apply v_callJ (hs := q4); (case ha => rfl); (case hd => rfl)) | (apply v_read; (case hop => first | (apply r_loadNo; (case hx => rfl); (case h => (repeat (first | exact List.Mem.head _ | apply List.Mem.tail | apply List.mem_append_right))); (case hd => (repeat (first | with_reducible exact dt_nil | apply dt_here | apply dt_drop))); (case hn => rfl)) | (apply r_load1; rfl; (apply Cell.own; (case h => (repeat (first | exact List.Mem.head _ | apply List.Mem.tail | apply List.mem_append_right))); rfl)) | (apply r_loadN; rfl; (apply CellsAt.own; (case h => (repeat (first | exact List.Mem.head _ | apply List.Mem.tail | apply List.mem_append_right)))); rfl)); (case hd => rfl)) | (apply v_box; (case hx => rfl); (case hz => rfl); (case hd => rfl); intro b) | fail)
    all_goals
      (refine v_ret [] (outsA1 rfl rfl) (by repeat (first | exact List.Sublist.refl _ | exact List.nil_sublist _ | apply List.Sublist.cons_cons | apply List.Sublist.cons | exact List.sublist_append_left _ _ | apply List.sublist_append_of_sublist_right)) ?_
       refine ⟨?_, rfl⟩
       first
         | (rw [hyes ⟨h1, .inl ⟨by assumption, by first | assumption | rfl, h2⟩⟩])
         | (rw [hyes ⟨h1, .inr ⟨by assumption, h3⟩⟩])
         | (rw [hnot]
            rintro ⟨-, ⟨a, b, d⟩ | ⟨a, d⟩⟩
            all_goals first
              | omega
              | exact h2 d
              | exact h3 d
              | (simp_all; done)))
  · rw [if_neg h1] at q1
    rw [hnot (fun h => h1 h.1)]
    repeat' (first | (apply v_box (zs := [.int .i64 schema, .slice A pl c, .slice A' sl c']); (case hx => rfl); (case hz => rfl); (case hd => rfl); intro b) | apply v_seq | apply v_region | apply v_nil | apply v_skip | apply v_block | apply v_blk | (apply v_exit; (case hp => rfl)) | (apply v_take; (case hg => rfl)) | (apply v_pass; (case hg => rfl); (case hn => rfl); (case hd => rfl)) | (apply v_passN; (case hg => rfl); (case hn => rfl); (case hd => rfl)) | (apply v_pure; (case hop => first | (apply p_move <;> rfl) | (apply p_eqs <;> rfl) | (apply p_nes <;> rfl) | (apply p_eqBs <;> rfl) | (apply p_neBs <;> rfl) | (apply p_eq <;> rfl) | (apply p_ne <;> rfl) | (apply p_assign <;> rfl) | (apply p_fieldAddrB <;> rfl) | (apply p_fieldAddr <;> rfl) | (apply p_eqB <;> rfl) | (apply p_neB <;> rfl) | (apply p_eqNil <;> rfl) | (apply p_neNil <;> rfl) | (apply p_eqS <;> rfl) | (apply p_neS <;> rfl) | (apply p_eqNilSlice <;> rfl) | (apply p_neNilSlice <;> rfl)); (case hd => rfl)) | (apply v_condT; (case hc => rfl)) | (apply v_condF; (case hc => rfl)) | (apply v_cond; (case hc => rfl); all_goals (intro h; (try simp only [reduceCtorEq, dec_true, dec_false, decide_eq_true_eq, decide_eq_false_iff_not, Bool.not_eq_true', Bool.not_eq_false', Option.isNone_iff_eq_none, beq_true, beq_false, beq_iff_eq, beq_eq_false_iff_ne, ne_eq, decide_eq_decide, Bool.not_eq_true, Bool.not_eq_false, Decidable.not_not] at h); first | done | (exfalso; omega) | (exfalso; exact h (by with_reducible assumption)) | (exfalso; revert h; rw [imp_false]; with_reducible assumption) | skip)) | (apply v_guardB; (case h1 => rfl); (case h2 => rfl); all_goals (intro h; (try simp only [reduceCtorEq, dec_true, dec_false, decide_eq_true_eq, decide_eq_false_iff_not, Bool.not_eq_true', Bool.not_eq_false', Option.isNone_iff_eq_none, beq_true, beq_false, beq_iff_eq, beq_eq_false_iff_ne, ne_eq, decide_eq_decide, Bool.not_eq_true, Bool.not_eq_false, Decidable.not_not] at h); first | done | (exfalso; omega) | (exfalso; exact h (by with_reducible assumption)) | (exfalso; revert h; rw [imp_false]; with_reducible assumption) | skip)) | (apply v_callJ (hs := q1); (case ha => rfl); (case hd => rfl)) | (apply v_read; (case hop => first | (apply r_loadNo; (case hx => rfl); (case h => (repeat (first | exact List.Mem.head _ | apply List.Mem.tail | apply List.mem_append_right))); (case hd => (repeat (first | with_reducible exact dt_nil | apply dt_here | apply dt_drop))); (case hn => rfl)) | (apply r_load1; rfl; (apply Cell.own; (case h => (repeat (first | exact List.Mem.head _ | apply List.Mem.tail | apply List.mem_append_right))); rfl)) | (apply r_loadN; rfl; (apply CellsAt.own; (case h => (repeat (first | exact List.Mem.head _ | apply List.Mem.tail | apply List.mem_append_right)))); rfl)); (case hd => rfl)) | (apply v_box; (case hx => rfl); (case hz => rfl); (case hd => rfl); intro b) | fail)
    refine v_ret [] (outsA1 rfl rfl) (by repeat (first | exact List.Sublist.refl _ | exact List.nil_sublist _ | apply List.Sublist.cons_cons | apply List.Sublist.cons | exact List.sublist_append_left _ _ | apply List.sublist_append_of_sublist_right)) ?_
    exact ⟨rfl, rfl⟩
end Go.Proofs.YtgflmkhfachlcaaGreatDoor
/-
  migr (layer 25): a copy of a state.
-/
set_option linter.unusedSimpArgs false
set_option linter.unusedVariables false
namespace Go.Proofs.YtgflmkhfachlcaaGreatDoor
open Go.Vx Go.ChangeShapes Go.WideShapes Go.ChangeAt Go.RowKit
theorem v_copyRow {P : Program} {fn : Func} {n : Nat} {B : Base} {Φ : Value → GH → OH → Prop} {k : List It} {rest : List Oper} {all : Array Oper} {σ : Env} {G : GH} {μ μ' : OH} {d : Nat} {t ty e : TypeId} {pos : String} {af : Array Edge} {agg : Bool} {sz bytes : Nat} {zero : Value} {y x : Operand} {b : Nat} {α : Type} {f : α → List Value} {l : List α} {sv : Value} {vs : List Value} [Ty P t (.slice e)] [Lay P e agg sz bytes zero]
    (hf : ∀ x, (f x).length = sz) (hone : ∀ x, (f x).all Value.oneCell' = true) (hsz : 0 < sz) (hs : Sl G sz (RowR f) sv l) (hvs : vs.length = l.length * sz)
    (hy : Env.ev σ y = some (.slice (some ⟨b, 0, none⟩) l.length l.length)) (hx : Env.ev σ x = some sv) (hb : Has μ b vs e) (hu : Upd b (.cells (rowC f l).toArray e (0, 0)) μ μ') (hsame : vs = rowC f l → μ' = μ) (hd : Nat.blt d n = true)
    (h : Vc P fn n B Φ (.ops all rest :: k) ((d, .int .i64 l.length) :: σ) G μ') : Vc P fn n B Φ (.ops all (⟨some d, .call { callee := .builtin .copy, args := #[y, x], argTypes := #[t, t] }, ty, pos, af, none⟩ :: rest) :: k) σ G μ := by
  obtain ⟨A, c, rfl, hlc, hcm, hsome, hcp⟩ := rowOpen hs
  have hl := rowC_length hf l
  by_cases h0 : l.length = 0
  · have e1 : l = [] := List.eq_nil_of_length_eq_zero h0
    subst e1
    have e2 : vs = [] := List.eq_nil_of_length_eq_zero (by rw [hvs]; simp)
    rw [hsame e2] at h
    exact v_read (m_copy0 (e := e) (agg := agg) (sz := sz) (bytes := bytes) (zero := zero) hy hx) hd h
  · refine v_copy (e := e) (agg := agg) (sz := sz) (bytes := bytes) (zero := zero) (q := l.length) (us := rowC f l) hy hx (Nat.min_self _) (by omega) (rowSrc hf hsz hsome hcp) hb ?_ ?_ ?_ hu hd h
    · rw [List.take_of_length_le (by omega)]; exact rowC_one hone l
    · omega
    · unfold over
      rw [List.take_of_length_le (l := rowC f l) (by omega), List.take_zero, List.drop_of_length_le (by omega)]
      simp
theorem migClone_s {G : GH} {s : St} {v : Value} (hs : StV G s v) (h1 : s.pairs.length ≤ 200) (h2 : s.sess.length ≤ 200) : Con Tryz.prog 23 #[v] G [] (fun r G' μ' => G' = G ∧ ∃ bp bs, r = .agg [.int .i64 s.schema, .slice (some ⟨bp, 0, none⟩) s.pairs.length s.pairs.length, .slice (some ⟨bs, 0, none⟩) s.sess.length s.sess.length].toArray ∧ μ' = [(bs, .cells (rowC Ss.cells s.sess).toArray 55 (0, 0)), (bp, .cells (rowC Pr.cells s.pairs).toArray 65 (0, 0))]) := by
  obtain ⟨A, c, A', c', rfl, hp, hss⟩ := id hs
  obtain ⟨schema, lp, ls⟩ := s
  simp only at *
  have z1 := rowC_length Pr.len lp
  have z2 := rowC_length Ss.len ls
  have q1 := Pr.one
  have q2 := Ss.one
  (refine v_enter Tryz.func23 rfl Tryz.ntmps23 rfl ?_; intro B _)
  repeat' (first | (apply v_box (zs := [.int .i64 schema, .slice A lp.length c, .slice A' ls.length c']); (case hx => rfl); (case hz => rfl); (case hd => rfl); intro b) | (apply v_alloc (d := 2); (case hz => rfl); (case hd => rfl); intro b2) | apply v_seq | apply v_region | apply v_nil | (apply v_pure; (case hop => first | (apply p_move <;> rfl) | (apply p_assign <;> rfl) | (apply p_lenSlice <;> rfl) | (apply p_fieldAddrB <;> rfl) | (apply p_build; (case hz => rfl); (case hv => (simp only [List.map_cons, List.map_nil]; repeat (first | with_reducible exact evs_nil | (apply evs_cons; (case h1 => rfl))))); (case hb => (apply bldL; repeat (first | exact bld_nil | (apply bld_cons; (case hpf => rfl); (case hc => rfl); (case hs => rfl); (case hl => rfl); (case ho => (first | ((repeat (first | with_reducible exact ov_nil | apply ov_cons | fail)); done) | fail))))))) | fail); (case hd => rfl)) | (apply v_makeSlice (m := lp.length); (case hx => rfl); (case hy => rfl); (case hb => omega); (case hm => simp only [maxLen]; omega); (case hd => rfl); intro bp vp hvp) | (apply v_makeSlice (m := ls.length); (case hx => rfl); (case hy => rfl); (case hb => omega); (case hm => simp only [maxLen]; omega); (case hd => rfl); intro bs vs hvs) | (apply v_copyRow (hf := Pr.len) (hone := Pr.one) (l := lp); (case hsz => omega); (case hs => exact hp); (case hvs => exact hvp); (case hy => rfl); (case hx => rfl); (case hb => (repeat (first | exact List.Mem.head _ | fail))); (case hu => (repeat (first | exact Upd.here _ _ | fail))); (case hsame => intro h; rw [h]); (case hd => rfl)) | (apply v_copyRow (hf := Ss.len) (hone := Ss.one) (l := ls); (case hsz => omega); (case hs => exact hss); (case hvs => exact hvs); (case hy => rfl); (case hx => rfl); (case hb => (repeat (first | exact List.Mem.head _ | fail))); (case hu => (repeat (first | exact Upd.here _ _ | fail))); (case hsame => intro h; rw [h]); (case hd => rfl)) | (apply v_read; (case hop => first | (apply r_load1; rfl; (apply Cell.own; (case h => (repeat (first | exact List.Mem.head _ | apply List.Mem.tail | fail))); rfl)) | fail); (case hd => rfl)) | (apply v_store; (case hp => rfl); (case hx => rfl); (case hc => rfl); (case hsz => rfl); (case h1 => rfl); (case hb => (repeat (first | exact List.Mem.head _ | apply List.Mem.tail | fail))); (case hfit => first | exact Nat.le_of_ble_eq_true rfl | fail); (case hov => (first | ((repeat (first | with_reducible exact ov_nil | apply ov_cons | fail)); done) | fail)); (case hu => repeat (first | exact Upd.here _ _ | apply Upd.there | fail))) | fail)
  refine v_retM [(bs, .cells (rowC Ss.cells ls).toArray 55 (0, 0)), (bp, .cells (rowC Pr.cells lp).toArray 65 (0, 0))] (outsM_cell (sz := 3) (vs := [.int .i64 schema, .slice (some ⟨bp, 0, none⟩) lp.length lp.length, .slice (some ⟨bs, 0, none⟩) ls.length ls.length]) (e := 25) rfl rfl (by repeat (first | exact List.Mem.head _ | apply List.Mem.tail | fail)) rfl) (by repeat (first | exact List.nil_sublist _ | apply List.Sublist.cons_cons | fail)) ⟨rfl, bp, bs, rfl, rfl⟩
theorem madeP {l : List Pr} (b : Nat) (h : l.length ≤ 200) : GrP (.slice (some ⟨b, 0, none⟩) l.length l.length) l [(b, .cells (rowC Pr.cells l).toArray 65 (0, 0))] :=
  ⟨rowC_length Pr.len l, .inr ⟨b, l.length, [], rfl, by rw [List.append_nil], Nat.le_refl _, by simp only [maxLen]; omega, by rw [List.append_nil]; exact rowC_length Pr.len l⟩⟩
theorem madeS {l : List Ss} (b : Nat) (h : l.length ≤ 200) : GrS (.slice (some ⟨b, 0, none⟩) l.length l.length) l [(b, .cells (rowC Ss.cells l).toArray 55 (0, 0))] :=
  ⟨rowC_length Ss.len l, .inr ⟨b, l.length, [], rfl, by rw [List.append_nil], Nat.le_refl _, by simp only [maxLen]; omega, by rw [List.append_nil]; exact rowC_length Ss.len l⟩⟩
/-- What is made is frozen: a state. -/
theorem StV.made {G' : GH} {s : St} {bp bs : Nat} (h1 : s.pairs.length ≤ 200) (h2 : s.sess.length ≤ 200) (hp : G' bp = some (.cells (rowC Pr.cells s.pairs).toArray 65 (0, 0))) (hs : G' bs = some (.cells (rowC Ss.cells s.sess).toArray 55 (0, 0))) :
    StV G' s (.agg [.int .i64 s.schema, .slice (some ⟨bp, 0, none⟩) s.pairs.length s.pairs.length, .slice (some ⟨bs, 0, none⟩) s.sess.length s.sess.length].toArray) :=
  ⟨_, _, _, _, rfl, row_of_grow Pr.len (madeP bp h1) (fun b o h => by simp only [List.mem_singleton] at h; cases h; exact hp), row_of_grow Ss.len (madeS bs h2) (fun b o h => by simp only [List.mem_singleton] at h; cases h; exact hs)⟩
end Go.Proofs.YtgflmkhfachlcaaGreatDoor
/-
  migr (layer 25): from the first schema to the second.
-/
set_option linter.unusedSimpArgs false
set_option linter.unusedVariables false
namespace Go.Proofs.YtgflmkhfachlcaaGreatDoor
open Go.Vx Go.ChangeShapes Go.WideShapes Go.ChangeAt Go.RowKit
def revOf (r : Int) (x : Pr) : Pr := { x with rev := r }
def revK (l : List Pr) (k : Nat) : List Pr := (l.take k).map (revOf 1) ++ l.drop k
theorem revK_next {l : List Pr} {k : Nat} (h : k < l.length) : revK l (k + 1) = (l.take k).map (revOf 1) ++ revOf 1 l[k] :: l.drop (k + 1) := by
  unfold revK
  rw [List.take_succ_eq_append_getElem h, List.map_append, List.append_assoc]
  rfl
theorem revK_at {l : List Pr} {k : Nat} (h : k < l.length) : revK l k = (l.take k).map (revOf 1) ++ l[k] :: l.drop (k + 1) := by
  unfold revK
  rw [List.drop_eq_getElem_cons h]
theorem revK_len {l : List Pr} {k : Nat} (h : k ≤ l.length) : (revK l k).length = l.length := by
  unfold revK
  rw [List.length_append, List.length_map, List.length_take, List.length_drop]; omega
theorem rev1_over (x : Pr) (p q : List Value) (n : Nat) (hp : p.length = n) : over (p ++ (x.cells ++ q)) (n + 2) [.int .i64 1] = p ++ ((revOf 1 x).cells ++ q) := by
  subst hp
  unfold over
  rw [List.take_append, List.take_of_length_le (by omega), List.drop_append, List.drop_of_length_le (by omega)]
  rw [show p.length + 2 - p.length = 2 by omega, show p.length + 2 + [Value.int IntKind.i64 1].length - p.length = 3 by simp only [List.length_singleton]; omega]
  simp [Pr.cells, revOf]
def upS (s : St) : St := ⟨2, s.pairs.map (revOf 1), s.sess⟩
abbrev stZ : Value := .agg #[.int .i64 0, .slice none 0 0, .slice none 0 0]
theorem migUp2_s {G : GH} (hT : TabsG G) {s : St} {v : Value} (hs : StV G s v) (hz : StZ s) (hok : StP s) (h2 : s.schema = 2) : Con Tryz.prog 35 #[v] G [] (Just (.tuple [stZ, .int .i64 12].toArray) G) := by
  have q1 := migCheck_s hT hs hz
  rw [if_pos hok] at q1
  obtain ⟨A, c, A', c', rfl, hp, hss⟩ := id hs
  obtain ⟨schema, lp, ls⟩ := s
  simp only at *
  subst h2
  generalize lp.length = pl at *
  generalize ls.length = sl at *
  apply Con.just
  (refine v_enter Tryz.func35 rfl Tryz.ntmps35 rfl ?_; intro B _)
  repeat' (first | (apply v_box (zs := [.int .i64 2, .slice A pl c, .slice A' sl c']); (case hx => rfl); (case hz => rfl); (case hd => rfl); intro b) | (apply v_alloc (d := 2); (case hz => rfl); (case hd => rfl); intro b2) | apply v_seq | apply v_region | apply v_nil | apply v_skip | (apply v_pure; (case hop => first | (apply p_move <;> rfl) | (apply p_eqs <;> rfl) | (apply p_nes <;> rfl) | (apply p_assign <;> rfl) | (apply p_fieldAddrB <;> rfl) | (apply p_build; (case hz => rfl); (case hv => (simp only [List.map_cons, List.map_nil]; repeat (first | with_reducible exact evs_nil | fail))); (case hb => (apply bldL; repeat (first | exact bld_nil | fail)))) | fail); (case hd => rfl)) | (apply v_condT; (case hc => rfl)) | (apply v_condF; (case hc => rfl)) | (apply v_callJ (hs := q1); (case ha => rfl); (case hd => rfl)) | (apply v_read; (case hop => first | (apply r_loadNo; (case hx => rfl); (case h => (repeat (first | exact List.Mem.head _ | apply List.Mem.tail | fail))); (case hd => (repeat (first | with_reducible exact dt_nil | apply dt_here | fail))); (case hn => rfl)) | (apply r_load1; rfl; (apply Cell.own; (case h => (repeat (first | exact List.Mem.head _ | apply List.Mem.tail | fail))); rfl)) | fail); (case hd => rfl)) | (apply v_store; (case hp => rfl); (case hx => rfl); (case hc => rfl); (case hsz => rfl); (case h1 => rfl); (case hb => (repeat (first | exact List.Mem.head _ | fail))); (case hfit => first | exact Nat.le_of_ble_eq_true rfl | fail); (case hov => (first | ((repeat (first | with_reducible exact ov_nil | apply ov_cons | fail)); done) | fail)); (case hu => repeat (first | exact Upd.here _ _ | fail))) | fail)
  refine v_retM [] (outsM_cell_tmp (sz := 3) (vs := [.int .i64 0, .slice none 0 0, .slice none 0 0]) (e := 25) rfl rfl rfl (by repeat (first | exact List.Mem.head _ | fail)) rfl) (List.nil_sublist _) ⟨rfl, rfl⟩
theorem migUp1_s {G : GH} (hT : TabsG G) {s : St} {v : Value} (hs : StV G s v) (hz : StZ s) (hok : StP s) (h1 : s.schema = 1) : Con Tryz.prog 35 #[v] G [] (fun r G' μ' => G' = G ∧ ∃ bp bs, r = .tuple [.agg [.int .i64 2, .slice (some ⟨bp, 0, none⟩) s.pairs.length s.pairs.length, .slice (some ⟨bs, 0, none⟩) s.sess.length s.sess.length].toArray, .int .i64 0].toArray ∧ μ' = [(bs, .cells (rowC Ss.cells s.sess).toArray 55 (0, 0)), (bp, .cells (rowC Pr.cells (upS s).pairs).toArray 65 (0, 0))]) := by
  have q1 := migCheck_s hT hs hz
  rw [if_pos hok] at q1
  obtain ⟨-, -, z3, z4⟩ := hz
  have q2 := migClone_s hs (by omega) (by omega)
  obtain ⟨A, c, A', c', rfl, hp, hss⟩ := id hs
  obtain ⟨schema, lp, ls⟩ := s
  unfold upS
  simp only at *
  subst h1
  (refine v_enter Tryz.func35 rfl Tryz.ntmps35 rfl ?_; intro B _)
  repeat' (first | (apply v_box (zs := [.int .i64 1, .slice A lp.length c, .slice A' ls.length c']); (case hx => rfl); (case hz => rfl); (case hd => rfl); intro b) | (apply v_alloc (d := 2); (case hz => rfl); (case hd => rfl); intro b2) | apply v_seq | apply v_region | apply v_nil | apply v_skip | (apply v_pure; (case hop => first | (apply p_move <;> rfl) | (apply p_nes <;> rfl) | (apply p_eq <;> rfl) | (apply p_assign <;> rfl) | (apply p_fieldAddrB <;> rfl) | fail); (case hd => rfl)) | (apply v_condF; (case hc => rfl)) | (apply v_cond; (case hc => rfl); all_goals (intro h; (try simp only [reduceCtorEq, dec_true, dec_false, decide_eq_true_eq, decide_eq_false_iff_not, Bool.not_eq_true', Bool.not_eq_false', Option.isNone_iff_eq_none, beq_true, beq_false, beq_iff_eq, beq_eq_false_iff_ne, ne_eq, decide_eq_decide, Bool.not_eq_true, Bool.not_eq_false, Decidable.not_not] at h); first | (exfalso; omega) | skip)) | (apply v_callJ (hs := q1); (case ha => rfl); (case hd => rfl)) | (apply v_read; (case hop => first | (apply r_loadNo; (case hx => rfl); (case h => (repeat (first | exact List.Mem.head _ | apply List.Mem.tail | fail))); (case hd => (repeat (first | with_reducible exact dt_nil | apply dt_here | fail))); (case hn => rfl)) | (apply r_load1; rfl; (apply Cell.own; (case h => (repeat (first | exact List.Mem.head _ | apply List.Mem.tail | fail))); rfl)) | fail); (case hd => rfl)) | fail)
  refine v_call (μ1 := []) rfl q2 (List.Perm.refl _) rfl ?_
  rintro _ G1 ν1 - ⟨hG1, bp, bs, rfl, rfl⟩
  subst hG1
  repeat' (first | (apply v_alloc (d := 5); (case hz => rfl); (case hd => rfl); intro b5) | apply v_seq | apply v_region | apply v_nil | apply v_block | (apply v_pure; (case hop => first | (apply p_move <;> rfl) | (apply p_lenSlice <;> rfl) | (apply p_fieldAddrB <;> rfl) | fail); (case hd => rfl)) | (apply v_read; (case hop => first | (apply r_load1; rfl; (apply Cell.own; (case h => (repeat (first | exact List.Mem.head _ | fail))); rfl)) | fail); (case hd => rfl)) | (apply v_store; (case hp => rfl); (case hx => rfl); (case hc => rfl); (case hsz => rfl); (case h1 => rfl); (case hb => (repeat (first | exact List.Mem.head _ | fail))); (case hfit => first | exact Nat.le_of_ble_eq_true rfl | fail); (case hov => (first | ((repeat (first | with_reducible exact ov_nil | apply ov_cons | fail)); done) | fail)); (case hu => repeat (first | exact Upd.here _ _ | fail))) | fail)
  refine v_perm (ν := [(bp, .cells (rowC Pr.cells (revK lp 0)).toArray 65 (0, 0)), (bs, .cells (rowC Ss.cells ls).toArray 55 (0, 0)), (b5, .cells [.int .i64 2, .slice (some ⟨bp, 0, none⟩) lp.length lp.length, .slice (some ⟨bs, 0, none⟩) ls.length ls.length].toArray 25 (0, 0)), (b2, .cells [.int .i64 0, .slice none 0 0, .slice none 0 0].toArray 25 (0, 0)), (b, .cells [.int .i64 1, .slice A lp.length c, .slice A' ls.length c'].toArray 25 (0, 0))]) (by apply perm_of_count; intro p; simp only [List.append_eq, List.countP_append, List.countP_cons, List.countP_nil, Nat.zero_add, Nat.add_zero]; try ac_rfl) ?_
  refine v_loop [23, 22, 5, 2] (fun us G' μ' => G' = G1 ∧ ∃ k : Nat, k ≤ lp.length ∧ us = [Value.int .i64 (k : Nat), .int .i64 (lp.length : Nat), .pointer (some ⟨b5, 0, none⟩), .pointer (some ⟨b2, 0, none⟩)] ∧ μ' = [(bp, .cells (rowC Pr.cells (revK lp k)).toArray 65 (0, 0)), (bs, .cells (rowC Ss.cells ls).toArray 55 (0, 0)), (b5, .cells [.int .i64 2, .slice (some ⟨bp, 0, none⟩) lp.length lp.length, .slice (some ⟨bs, 0, none⟩) ls.length ls.length].toArray 25 (0, 0)), (b2, .cells [.int .i64 0, .slice none 0 0, .slice none 0 0].toArray 25 (0, 0)), (b, .cells [.int .i64 1, .slice A lp.length c, .slice A' ls.length c'].toArray 25 (0, 0))]) (fun us => lp.length - (headI us).toNat) rfl ⟨rfl, 0, by omega, rfl, rfl⟩ ?_
  rintro us G' _ ⟨hG', k, hk, rfl, rfl⟩
  subst hG'
  by_cases hlt : k < lp.length
  · have hov : over (rowC Pr.cells (revK lp k)) (k * 3 + 2) [.int .i64 1] = rowC Pr.cells (revK lp (k + 1)) := by
      rw [revK_at hlt, revK_next hlt, rowC_append, rowC_append, rowC_cons, rowC_cons]
      exact rev1_over _ _ _ _ (by rw [rowC_length Pr.len, List.length_map, List.length_take, Nat.min_eq_left (by omega)])
    have hfit : k * 3 + 2 + 1 ≤ (rowC Pr.cells (revK lp k)).length := by
      rw [rowC_length Pr.len, revK_len hk]
      omega
    repeat' (first | (apply v_pure; (case hop => apply p_idxOwn2; (case hx => rfl); (case hi => rfl); (case h => omega)); (case hd => rfl)) | apply v_seq | apply v_region | apply v_nil | apply v_skip | apply v_block | apply v_blk | (apply v_pure; (case hop => first | (apply p_move <;> rfl) | (apply p_lt <;> rfl) | (apply p_assign <;> rfl) | (apply p_fieldAddrB <;> rfl) | (apply p_add; (case hx => rfl); (case hy => rfl); (case h => omega)) | fail); (case hd => rfl)) | (apply v_cond; (case hc => rfl); all_goals (intro h; (try simp only [reduceCtorEq, dec_true, dec_false, decide_eq_true_eq, decide_eq_false_iff_not, Bool.not_eq_true', Bool.not_eq_false', Option.isNone_iff_eq_none, beq_true, beq_false, beq_iff_eq, beq_eq_false_iff_ne, ne_eq, decide_eq_decide, Bool.not_eq_true, Bool.not_eq_false, Decidable.not_not] at h); first | (exfalso; omega) | skip)) | (apply v_store; (case hp => rfl); (case hx => rfl); (case hc => rfl); (case hsz => rfl); (case h1 => rfl); (case hb => (repeat (first | exact List.Mem.head _ | fail))); (case hfit => exact hfit); (case hov => exact hov); (case hu => (repeat (first | exact Upd.here _ _ | fail)))) | (apply v_read; (case hop => first | (apply r_load1; rfl; (apply Cell.own; (case h => (repeat (first | exact List.Mem.head _ | apply List.Mem.tail | fail))); rfl)) | fail); (case hd => rfl)) | fail)
    exact v_again rfl ⟨rfl, k + 1, by omega, rfl, rfl⟩ (by simp [headI]; omega)
  · obtain rfl : k = lp.length := by omega
    have e1 : revK lp lp.length = lp.map (revOf 1) := by unfold revK; simp
    rw [e1]
    repeat' (first | apply v_seq | apply v_region | apply v_nil | (apply v_exit; (case hp => rfl)) | (apply v_pure; (case hop => first | (apply p_lt <;> rfl) | (apply p_assign <;> rfl) | fail); (case hd => rfl)) | (apply v_cond; (case hc => rfl); all_goals (intro h; (try simp only [reduceCtorEq, dec_true, dec_false, decide_eq_true_eq, decide_eq_false_iff_not, Bool.not_eq_true', Bool.not_eq_false', Option.isNone_iff_eq_none, beq_true, beq_false, beq_iff_eq, beq_eq_false_iff_ne, ne_eq, decide_eq_decide, Bool.not_eq_true, Bool.not_eq_false, Decidable.not_not] at h); first | (exfalso; omega) | skip)) | (apply v_read; (case hop => first | (apply r_loadNo; (case hx => rfl); (case h => (repeat (first | exact List.Mem.head _ | apply List.Mem.tail | fail))); (case hd => (repeat (first | with_reducible exact dt_nil | apply dt_here | fail))); (case hn => rfl)) | fail); (case hd => rfl)) | (apply v_store; (case hp => rfl); (case hx => rfl); (case hc => rfl); (case hsz => rfl); (case h1 => rfl); (case hb => (repeat (first | exact List.Mem.head _ | apply List.Mem.tail | fail))); (case hfit => first | exact Nat.le_of_ble_eq_true rfl | fail); (case hov => (first | ((repeat (first | with_reducible exact ov_nil | apply ov_cons | fail)); done) | fail)); (case hu => repeat (first | exact Upd.here _ _ | apply Upd.there | fail))) | fail)
    refine v_perm (ν := [(bs, .cells (rowC Ss.cells ls).toArray 55 (0, 0)), (bp, .cells (rowC Pr.cells (lp.map (revOf 1))).toArray 65 (0, 0)), (b5, .cells [.int .i64 2, .slice (some ⟨bp, 0, none⟩) lp.length lp.length, .slice (some ⟨bs, 0, none⟩) ls.length ls.length].toArray 25 (0, 0)), (b2, .cells [.int .i64 2, .slice (some ⟨bp, 0, none⟩) lp.length lp.length, .slice (some ⟨bs, 0, none⟩) ls.length ls.length].toArray 25 (0, 0)), (b, .cells [.int .i64 1, .slice A lp.length c, .slice A' ls.length c'].toArray 25 (0, 0))]) (by apply perm_of_count; intro p; simp only [List.append_eq, List.countP_append, List.countP_cons, List.countP_nil, Nat.zero_add, Nat.add_zero]; try ac_rfl) ?_
    refine v_retM [(bs, .cells (rowC Ss.cells ls).toArray 55 (0, 0)), (bp, .cells (rowC Pr.cells (lp.map (revOf 1))).toArray 65 (0, 0))] (outsM_cell_tmp (sz := 3) (vs := [.int .i64 2, .slice (some ⟨bp, 0, none⟩) lp.length lp.length, .slice (some ⟨bs, 0, none⟩) ls.length ls.length]) (e := 25) rfl rfl rfl (by repeat (first | exact List.Mem.head _ | apply List.Mem.tail | fail)) rfl) (by repeat (first | exact List.nil_sublist _ | apply List.Sublist.cons_cons | fail)) ⟨rfl, bp, bs, rfl, rfl⟩
end Go.Proofs.YtgflmkhfachlcaaGreatDoor
/-
  cmd.Owned; app (layer 28): a command applied.
-/
set_option linter.unusedSimpArgs false
set_option linter.unusedVariables false
namespace Go.Proofs.YtgflmkhfachlcaaGreatDoor
open Go.Vx Go.ChangeShapes Go.WideShapes Go.ChangeAt Go.RowKit
theorem ownB (k : Int) : decide (¬ band (cmdFields k).1 1 = 0) = decide (2 ≤ k ∧ k ≤ 5) := by
  rw [decide_eq_decide]
  unfold cmdFields
  by_cases h1 : k = 1 ∨ k = 6
  · rw [if_pos h1]; exact ⟨fun h => absurd band_0_1 h, fun h => absurd h (by omega)⟩
  rw [if_neg h1]
  by_cases h2 : k = 2
  · rw [if_pos h2]; exact ⟨fun _ => by omega, fun _ h => absurd (band_11_1.symm.trans h) (by decide)⟩
  rw [if_neg h2]
  by_cases h3 : k = 3 ∨ k = 4
  · rw [if_pos h3]; exact ⟨fun _ => by omega, fun _ h => absurd (band_3_1.symm.trans h) (by decide)⟩
  rw [if_neg h3]
  by_cases h4 : k = 5
  · rw [if_pos h4]; exact ⟨fun _ => by omega, fun _ h => absurd (band_15_1.symm.trans h) (by decide)⟩
  rw [if_neg h4]
  by_cases h5 : k = 7 ∨ k = 8
  · rw [if_pos h5]; exact ⟨fun h => absurd band_16_1 h, fun h => absurd h (by omega)⟩
  rw [if_neg h5]; exact ⟨fun h => absurd band_0_1 h, fun h => absurd h (by omega)⟩
theorem cmdOwned_s (G : GH) (c : Cm) : Con Tryz.prog 33 #[.agg c.cells.toArray] G [] (Just (.bool (decide (2 ≤ c.kind ∧ c.kind ≤ 5))) G) := by
  have q := fields_s G c.kind
  have hb := ownB c.kind
  apply Con.just
  obtain ⟨kind, client, seq, key, val, old, node⟩ := c
  simp only at *
  generalize cmdFields kind = f at *
  rw [← hb]
  (refine v_enter Tryz.func33 rfl Tryz.ntmps33 rfl ?_; intro B _)
  repeat' (first | (apply v_box (zs := Cm.cells ⟨kind, client, seq, key, val, old, node⟩); (case hx => rfl); (case hz => rfl); (case hd => rfl); intro b) | apply v_seq | apply v_region | apply v_nil | (apply v_pure; (case hop => first | (apply p_move <;> rfl) | (apply p_ne <;> rfl) | (apply p_assign <;> rfl) | (apply p_fieldAddrB <;> rfl) | (apply p_extract0 <;> rfl) | (apply p_extract1 <;> rfl) | (apply p_and64 <;> rfl) | fail); (case hd => rfl)) | (apply v_callJ (hs := q); (case ha => rfl); (case hd => rfl)) | (apply v_read; (case hop => first | (apply r_load1; rfl; (apply Cell.own; (case h => (repeat (first | exact List.Mem.head _ | fail))); rfl)) | fail); (case hd => rfl)) | fail)
  all_goals
    (refine v_ret [] (outsA1 rfl rfl) (by repeat (first | exact List.nil_sublist _ | fail)) ?_
     refine ⟨?_, rfl⟩
     (try simp only [dec_eq])
     first
       | rfl
       | (simp; done)
       | (simp_all; done))
def zeroSt : St := ⟨0, [], []⟩
theorem StV.zero (G : GH) : StV G zeroSt stZ := by
  refine ⟨none, 0, none, 0, rfl, ?_, ?_⟩
  · exact row_of_grow Pr.len (Grow.nil 65 3) (fun b o h => by cases h)
  · exact row_of_grow Ss.len (Grow.nil 55 8) (fun b o h => by cases h)
theorem StP.walk {s : St} (h : StP s) (hz : StZ s) : StW s := by
  obtain ⟨h1, h2⟩ := h
  obtain ⟨z1, z2, z3, z4⟩ := hz
  refine ⟨?_, z1, z3, ?_, riseG_pw.1 (adjS_rise h1.1), by omega⟩
  · rcases h2 with ⟨-, -, h⟩ | ⟨-, h⟩
    · exact riseG_pw.1 (adj_rise h.2.1)
    · exact riseG_pw.1 (adj_rise h.2.1)
  · intro x hx
    rcases h2 with ⟨-, -, h⟩ | ⟨-, h⟩
    · have := (h.2.2 x hx).2; omega
    · have := (h.2.2 x hx).2; omega
noncomputable def applyS (s : St) (c : Cm) : St × An × Int :=
  if cmdI c ≠ 0 then (zeroSt, zA, cmdI c)
  else if 2 ≤ c.kind ∧ c.kind ≤ 5 then ((clientS s c).1, (clientS s c).2, 0)
  else if c.kind = 6 ∧ s.schema = 1 then (upS s, zA, 0)
  else (s, zA, 0)
theorem TabsG.up {G G' : GH} (hle : GH.le G G') (h : TabsG G) : TabsG G' := fun w hw => h w fun b o hb => hw b o (hle b o hb)
theorem apply_s {G : GH} (hT : TabsG G) {s : St} {v : Value} (c : Cm) (hs : StV G s v) (hz : StZ s) (hok : StP s) (hc : c.ok) (hcw : CmW c) :
    Con Tryz.prog 16 #[v, .agg c.cells.toArray] G [] (fun r G' μ' => μ' = [] ∧ ∃ v', r = .tuple [v', .agg (applyS s c).2.1.cells.toArray, .int .i64 (applyS s c).2.2].toArray ∧ StV G' (applyS s c).1 v') := by
  have qk := migCheck_s hT hs hz
  rw [if_pos hok] at qk
  have qc := cmdCheck_s hT c hc
  obtain ⟨A, c0, A', c', rfl, hp, hss⟩ := id hs
  have hw := hok.walk hz
  unfold applyS
  have hcl := fun G' v' (h : StV G' s v') => client_s c h hw hcw
  have hcn := fun G' v' (h : StV G' s v') => migClone_s (G := G') h (by have := hz.2.2.1; omega) (by have := hz.2.2.2; omega)
  have hu1 := fun G' (hT : TabsG G') v' (h : StV G' s v') => migUp1_s hT h hz hok
  have hu2 := fun G' (hT : TabsG G') v' (h : StV G' s v') => migUp2_s hT h hz hok
  have how := fun G' => cmdOwned_s G' c
  obtain ⟨kind, cl, seq, key, val, old, node⟩ := c
  generalize cmdI ⟨kind, cl, seq, key, val, old, node⟩ = ci at *
  generalize clientS s ⟨kind, cl, seq, key, val, old, node⟩ = cs at *
  simp only at *
  (refine v_enter Tryz.func16 rfl Tryz.ntmps16 rfl ?_; intro B _)
  repeat' (first | (apply v_box (d := 2) (zs := [.int .i64 s.schema, .slice A s.pairs.length c0, .slice A' s.sess.length c']); (case hx => rfl); (case hz => rfl); (case hd => rfl); intro b2) | (apply v_box (d := 3) (zs := (Cm.cells ⟨kind, cl, seq, key, val, old, node⟩)); (case hx => rfl); (case hz => rfl); (case hd => rfl); intro b3) | (apply v_alloc (d := 4); (case hz => rfl); (case hd => rfl); intro b4) | (apply v_alloc (d := 5); (case hz => rfl); (case hd => rfl); intro b5) | (apply v_read; (case hop => (apply r_loadNo; (case hx => rfl); (case h => repeat (first | exact List.Mem.head _ | apply List.Mem.tail | fail)); (case hd => rfl); (case hn => rfl))); (case hd => rfl)) | apply v_seq | apply v_region | apply v_nil | apply v_skip | (apply v_pure; (case hop => first | (apply p_move <;> rfl) | (apply p_nes <;> rfl) | (apply p_assign <;> rfl) | fail); (case hd => rfl)) | (apply v_condF; (case hc => rfl)) | (apply v_callJ (hs := qk); (case ha => rfl); (case hd => rfl)) | fail)
  refine v_call (μ1 := []) rfl qc (List.Perm.refl _) rfl ?_
  rintro _ G1 _ hle1 ⟨rfl, rfl⟩
  have hT1 := hT.up hle1
  by_cases hci : ci = 0
  · rw [if_neg (by simp [hci])]
    subst hci
    repeat' (first | (apply v_read; (case hop => (apply r_loadNo; (case hx => rfl); (case h => repeat (first | exact List.Mem.head _ | apply List.Mem.tail | fail)); (case hd => rfl); (case hn => rfl))); (case hd => rfl)) | apply v_seq | apply v_region | apply v_nil | apply v_skip | (apply v_pure; (case hop => first | (apply p_move <;> rfl) | (apply p_nes <;> rfl) | (apply p_assign <;> rfl) | fail); (case hd => rfl)) | (apply v_condF; (case hc => rfl)) | fail)
    refine v_call (μ1 := []) rfl (hcn G1 _ (hs.up hle1)) (List.Perm.refl _) rfl ?_
    rintro _ G2 ν2 - ⟨hG2, bp, bs, rfl, rfl⟩
    subst hG2
    refine v_frz [(bs, .cells (rowC Ss.cells s.sess).toArray 55 (0, 0)), (bp, .cells (rowC Pr.cells s.pairs).toArray 65 (0, 0))] (PickA.here _) ?_
    intro G3 hle3 hG3
    have hs3 : StV G3 s _ := StV.made (s := s) (bp := bp) (bs := bs) (by have := hz.2.2.1; omega) (by have := hz.2.2.2; omega) (hG3 _ _ (by (repeat (first | exact List.Mem.head _ | apply List.Mem.tail)))) (hG3 _ _ (by (repeat (first | exact List.Mem.head _ | fail))))
    have hT3 := hT1.up hle3
    have how3 := how G3
    repeat' (first | (apply v_read; (case hop => (apply r_loadNo; (case hx => rfl); (case h => repeat (first | exact List.Mem.head _ | apply List.Mem.tail | fail)); (case hd => rfl); (case hn => rfl))); (case hd => rfl)) | apply v_seq | apply v_region | apply v_nil | apply v_skip | (apply v_cond; (case hc => rfl); all_goals (intro h; (try simp only [reduceCtorEq, dec_true, dec_false, decide_eq_true_eq, decide_eq_false_iff_not, Bool.not_eq_true', Bool.not_eq_false', Option.isNone_iff_eq_none, beq_true, beq_false, beq_iff_eq, beq_eq_false_iff_ne, ne_eq, decide_eq_decide, Bool.not_eq_true, Bool.not_eq_false, Decidable.not_not] at h); first | skip)) | (apply v_callJ (hs := how3); (case ha => rfl); (case hd => rfl)) | (apply v_store; (case hp => rfl); (case hx => rfl); (case hc => rfl); (case hsz => rfl); (case h1 => rfl); (case hb => (repeat (first | exact List.Mem.head _ | apply List.Mem.tail | fail))); (case hfit => first | exact Nat.le_of_ble_eq_true rfl | fail); (case hov => (first | ((repeat (first | with_reducible exact ov_nil | apply ov_cons | fail)); done) | fail)); (case hu => repeat (first | exact Upd.here _ _ | apply Upd.there | fail))) | fail)
    · rw [if_pos (by assumption)]
      refine v_call (μ1 := []) rfl (hcl G3 _ hs3) (List.Perm.refl _) rfl ?_
      obtain ⟨cs1, ⟨ac, aq, ae, af, av, ar⟩⟩ := cs
      rintro _ G4 _ - ⟨hle4, rfl, v4, rfl, hs4⟩
      obtain ⟨A4, c4, A4', c4', rfl, -, -⟩ := id hs4
      repeat' (first | (apply v_alloc (d := 9); (case hz => rfl); (case hd => rfl); intro b9) | (apply v_alloc (d := 10); (case hz => rfl); (case hd => rfl); intro b10) | apply v_seq | apply v_nil | (apply v_pure; (case hop => first | (apply p_move <;> rfl) | (apply p_extract0 <;> rfl) | (apply p_extract1 <;> rfl) | fail); (case hd => rfl)) | (apply v_store; (case hp => rfl); (case hx => rfl); (case hc => rfl); (case hsz => rfl); (case h1 => rfl); (case hb => (repeat (first | exact List.Mem.head _ | apply List.Mem.tail | fail))); (case hfit => first | exact Nat.le_of_ble_eq_true rfl | fail); (case hov => (first | ((repeat (first | with_reducible exact ov_nil | apply ov_cons | fail)); done) | fail)); (case hu => repeat (first | exact Upd.here _ _ | apply Upd.there | fail))) | fail)
      refine d_start [(b9, .cells [.int .i64 cs1.schema, .slice A4 cs1.pairs.length c4, .slice A4' cs1.sess.length c4'].toArray 25 (0, 0)), (b10, .cells [.int .i64 ac, .int .i64 aq, .int .i64 ae, .bool af, .string av, .int .i64 ar].toArray 42 (0, 0))] (by kernel_rfl) (by kernel_rfl) (by kernel_rfl) (by intro e he; first | (simp only [List.mem_cons, List.not_mem_nil, or_false] at he; rcases he with rfl | rfl <;> simp; done) | fail) ?_
      all_goals (first | (apply d_take 0; (case hi => rfl); (case hop => first   | (apply r_loadNo; (case hx => rfl); (case h => (repeat (first | exact List.Mem.head _ | fail))); (case hd => (repeat (first | with_reducible exact dt_nil | apply dt_here | fail))); (case hn => rfl)) | (apply r_load1; rfl; (apply Cell.own; (case h => (repeat (fail))); rfl)) | (apply r_loadN; rfl; (apply CellsAt.own; (case h => (repeat (fail)))); rfl)); (case hf => kernel_rfl); (case hr => kernel_rfl); (case hd => rfl)) | fail)
      all_goals (first | (apply d_take 1; (case hi => rfl); (case hop => first   | (apply r_loadNo; (case hx => rfl); (case h => (repeat (first | exact List.Mem.head _ | apply List.Mem.tail | fail))); (case hd => (repeat (first | with_reducible exact dt_nil | apply dt_here | fail))); (case hn => rfl)) | (apply r_load1; rfl; (apply Cell.own; (case h => (repeat (fail))); rfl)) | (apply r_loadN; rfl; (apply CellsAt.own; (case h => (repeat (fail)))); rfl)); (case hf => kernel_rfl); (case hr => kernel_rfl); (case hd => rfl)) | fail)
      all_goals (first | (apply d_store 2; (case hi => rfl); (case hr => kernel_rfl); (case hL => infer_instance); (case hp => rfl); (case hx => rfl); (case hc => rfl); (case hsz => rfl); (case h1 => rfl); (case hb => (repeat (first | exact List.Mem.head _ | apply List.Mem.tail | fail))); (case hfit => first | exact Nat.le_of_ble_eq_true rfl | fail); (case hov => (first | ((repeat (first | with_reducible exact ov_nil | apply ov_cons | fail)); done) | fail)); (case hu => repeat (first | exact Upd.here _ _ | apply Upd.there | fail)); (case hν' => intro e he; first | (simp only [List.mem_cons, List.not_mem_nil, or_false] at he; rcases he with rfl | rfl <;> simp; done) | fail)) | fail)
      all_goals (first | (apply d_store 3; (case hi => rfl); (case hr => kernel_rfl); (case hL => infer_instance); (case hp => rfl); (case hx => rfl); (case hc => rfl); (case hsz => rfl); (case h1 => rfl); (case hb => (repeat (first | exact List.Mem.head _ | apply List.Mem.tail | fail))); (case hfit => first | exact Nat.le_of_ble_eq_true rfl | fail); (case hov => (first | ((repeat (first | with_reducible exact ov_nil | apply ov_cons | fail)); done) | fail)); (case hu => repeat (first | exact Upd.here _ _ | apply Upd.there | fail)); (case hν' => intro e he; first | (simp only [List.mem_cons, List.not_mem_nil, or_false] at he; rcases he with rfl | rfl <;> simp; done) | fail)) | fail)
      all_goals (first | (apply d_take 4; (case hi => rfl); (case hop => first | (apply PureOp.read; apply p_assign <;> rfl)); (case hf => kernel_rfl); (case hr => kernel_rfl); (case hd => rfl)) | fail)
      all_goals (apply d_done; (case hr => kernel_rfl))
      repeat' (fail)
      refine v_retM [] (outsM_cct (sz0 := 3) (vs0 := [.int .i64 cs1.schema, .slice A4 cs1.pairs.length c4, .slice A4' cs1.sess.length c4']) (e0 := 25) (sz1 := 6) (vs1 := [.int .i64 ac, .int .i64 aq, .int .i64 ae, .bool af, .string av, .int .i64 ar]) (e1 := 42) rfl rfl (by repeat (first | exact List.Mem.head _ | apply List.Mem.tail | fail)) rfl rfl (by repeat (first | exact List.Mem.head _ | apply List.Mem.tail | fail)) rfl rfl) (List.nil_sublist _) ⟨rfl, _, rfl, hs4⟩
    · rw [if_neg (by assumption)]
      by_cases h1 : s.schema = 1
      · refine v_call (μ1 := []) rfl (hu1 G3 hT3 _ hs3 h1) (List.Perm.refl _) rfl ?_
        rintro _ G4 ν4 - ⟨hG4, bp', bs', rfl, rfl⟩
        subst hG4
        refine v_frz [(bs', .cells (rowC Ss.cells s.sess).toArray 55 (0, 0)), (bp', .cells (rowC Pr.cells (upS s).pairs).toArray 65 (0, 0))] (PickA.here _) ?_
        intro G5 hle5 hG5
        have el : (upS s).pairs.length = s.pairs.length := List.length_map ..
        have hs5 := StV.made (G' := G5) (s := upS s) (bp := bp') (bs := bs') (by rw [el]; have := hz.2.2.1; omega) (by have := hz.2.2.2; show s.sess.length ≤ 200; omega) (hG5 _ _ (by (repeat (first | exact List.Mem.head _ | apply List.Mem.tail)))) (hG5 _ _ (by (repeat (first | exact List.Mem.head _ | fail))))
        rw [el] at hs5
        have hs3' := hs3.up hle5
        repeat' (first | (apply v_alloc (d := 11); (case hz => rfl); (case hd => rfl); intro b11) | (apply v_read; (case hop => (apply r_loadNo; (case hx => rfl); (case h => repeat (first | exact List.Mem.head _ | apply List.Mem.tail | fail)); (case hd => rfl); (case hn => rfl))); (case hd => rfl)) | apply v_seq | apply v_region | apply v_nil | apply v_skip | (apply v_take; (case hg => rfl)) | (apply v_pass; (case hg => rfl); (case hn => rfl); (case hd => rfl)) | (apply v_pure; (case hop => first | (apply p_move <;> rfl) | (apply p_eqs <;> rfl) | (apply p_eq <;> rfl) | (apply p_assign <;> rfl) | (apply p_pickT <;> rfl) | (apply p_pickF <;> rfl) | (apply p_fieldAddrB <;> rfl) | (apply p_extract0 <;> rfl) | (apply p_extract1 <;> rfl) | (apply p_build; (case hz => rfl); (case hv => (simp only [List.map_cons, List.map_nil]; repeat (first | with_reducible exact evs_nil | fail))); (case hb => (apply bldL; repeat (first | exact bld_nil | fail)))) | fail); (case hd => rfl)) | (apply v_condT; (case hc => rfl)) | (apply v_condF; (case hc => rfl)) | (apply v_guardB; (case h1 => rfl); (case h2 => rfl); all_goals (intro h; (try simp only [reduceCtorEq, dec_true, dec_false, decide_eq_true_eq, decide_eq_false_iff_not, Bool.not_eq_true', Bool.not_eq_false', Option.isNone_iff_eq_none, beq_true, beq_false, beq_iff_eq, beq_eq_false_iff_ne, ne_eq, decide_eq_decide, Bool.not_eq_true, Bool.not_eq_false, Decidable.not_not] at h); first | skip)) | (apply v_read; (case hop => first | (apply r_load1; rfl; (apply Cell.own; (case h => (repeat (first | exact List.Mem.head _ | apply List.Mem.tail | fail))); rfl)) | fail); (case hd => rfl)) | (apply v_store; (case hp => rfl); (case hx => rfl); (case hc => rfl); (case hsz => rfl); (case h1 => rfl); (case hb => (repeat (first | exact List.Mem.head _ | apply List.Mem.tail | fail))); (case hfit => first | exact Nat.le_of_ble_eq_true rfl | fail); (case hov => (first | ((repeat (first | with_reducible exact ov_nil | apply ov_cons | fail)); done) | rfl)); (case hu => repeat (first | exact Upd.here _ _ | apply Upd.there | fail))) | fail)
        · rw [if_pos ⟨by assumption, h1⟩]
          refine v_retM [] (outsM_cct (sz0 := 3) (vs0 := [.int .i64 2, .slice (some ⟨bp', 0, none⟩) s.pairs.length s.pairs.length, .slice (some ⟨bs', 0, none⟩) s.sess.length s.sess.length]) (e0 := 25) (sz1 := 6) (vs1 := zA.cells) (e1 := 42) rfl rfl (by repeat (first | exact List.Mem.head _ | apply List.Mem.tail | fail)) rfl rfl (by repeat (first | exact List.Mem.head _ | apply List.Mem.tail | fail)) rfl rfl) (List.nil_sublist _) ⟨rfl, _, rfl, hs5⟩
        · rw [if_neg (fun h => absurd h.1 (by assumption))]
          refine v_retM [] (outsM_cct (sz0 := 3) (vs0 := [.int .i64 s.schema, .slice (some ⟨bp, 0, none⟩) s.pairs.length s.pairs.length, .slice (some ⟨bs, 0, none⟩) s.sess.length s.sess.length]) (e0 := 25) (sz1 := 6) (vs1 := zA.cells) (e1 := 42) rfl rfl (by repeat (first | exact List.Mem.head _ | apply List.Mem.tail | fail)) rfl rfl (by repeat (first | exact List.Mem.head _ | apply List.Mem.tail | fail)) rfl rfl) (List.nil_sublist _) ⟨rfl, _, rfl, hs3'⟩
      · rw [if_neg (fun h => h1 h.2)]
        have h2 : s.schema = 2 := by
          rcases hok.2 with h | h
          · exact absurd h.1 h1
          · exact h.1
        refine v_call (μ1 := []) rfl (hu2 G3 hT3 _ hs3 h2) (List.Perm.refl _) rfl ?_
        rintro _ G4 ν4 - ⟨rfl, hG4, rfl⟩
        try subst hG4
        repeat' (first | (apply v_alloc (d := 11); (case hz => rfl); (case hd => rfl); intro b11) | (apply v_read; (case hop => (apply r_loadNo; (case hx => rfl); (case h => repeat (first | exact List.Mem.head _ | apply List.Mem.tail | fail)); (case hd => rfl); (case hn => rfl))); (case hd => rfl)) | apply v_seq | apply v_region | apply v_nil | apply v_skip | (apply v_take; (case hg => rfl)) | (apply v_pass; (case hg => rfl); (case hn => rfl); (case hd => rfl)) | (apply v_pure; (case hop => first | (apply p_move <;> rfl) | (apply p_eq <;> rfl) | (apply p_assign <;> rfl) | (apply p_pickT <;> rfl) | (apply p_pickF <;> rfl) | (apply p_fieldAddrB <;> rfl) | (apply p_extract0 <;> rfl) | (apply p_extract1 <;> rfl) | (apply p_build; (case hz => rfl); (case hv => (simp only [List.map_cons, List.map_nil]; repeat (first | with_reducible exact evs_nil | fail))); (case hb => (apply bldL; repeat (first | exact bld_nil | fail)))) | fail); (case hd => rfl)) | (apply v_condF; (case hc => rfl)) | (apply v_cond; (case hc => rfl); all_goals (intro h; (try simp only [reduceCtorEq, dec_true, dec_false, decide_eq_true_eq, decide_eq_false_iff_not, Bool.not_eq_true', Bool.not_eq_false', Option.isNone_iff_eq_none, beq_true, beq_false, beq_iff_eq, beq_eq_false_iff_ne, ne_eq, decide_eq_decide, Bool.not_eq_true, Bool.not_eq_false, Decidable.not_not] at h); first | (exfalso; omega) | skip)) | (apply v_guardB; (case h1 => rfl); (case h2 => rfl); all_goals (intro h; (try simp only [reduceCtorEq, dec_true, dec_false, decide_eq_true_eq, decide_eq_false_iff_not, Bool.not_eq_true', Bool.not_eq_false', Option.isNone_iff_eq_none, beq_true, beq_false, beq_iff_eq, beq_eq_false_iff_ne, ne_eq, decide_eq_decide, Bool.not_eq_true, Bool.not_eq_false, Decidable.not_not] at h); first | skip)) | (apply v_read; (case hop => first | (apply r_load1; rfl; (apply Cell.own; (case h => (repeat (first | exact List.Mem.head _ | apply List.Mem.tail | fail))); rfl)) | fail); (case hd => rfl)) | (apply v_store; (case hp => rfl); (case hx => rfl); (case hc => rfl); (case hsz => rfl); (case h1 => rfl); (case hb => (repeat (first | exact List.Mem.head _ | apply List.Mem.tail | fail))); (case hfit => first | exact Nat.le_of_ble_eq_true rfl | fail); (case hov => (first | ((repeat (first | with_reducible exact ov_nil | apply ov_cons | fail)); done) | rfl)); (case hu => repeat (first | exact Upd.here _ _ | apply Upd.there | fail))) | fail)
        all_goals
          refine v_retM [] (outsM_cct (sz0 := 3) (vs0 := [.int .i64 s.schema, .slice (some ⟨bp, 0, none⟩) s.pairs.length s.pairs.length, .slice (some ⟨bs, 0, none⟩) s.sess.length s.sess.length]) (e0 := 25) (sz1 := 6) (vs1 := zA.cells) (e1 := 42) rfl rfl (by repeat (first | exact List.Mem.head _ | apply List.Mem.tail | fail)) rfl rfl (by repeat (first | exact List.Mem.head _ | apply List.Mem.tail | fail)) rfl rfl) (List.nil_sublist _) ⟨rfl, _, rfl, hs3⟩
  · rw [if_pos (by simp [hci])]
    repeat' (first | apply v_seq | apply v_region | apply v_nil | (apply v_pure; (case hop => first | (apply p_move <;> rfl) | (apply p_ne <;> rfl) | (apply p_assign <;> rfl) | (apply p_build; (case hz => rfl); (case hv => (simp only [List.map_cons, List.map_nil]; repeat (first | with_reducible exact evs_nil | fail))); (case hb => (apply bldL; repeat (first | exact bld_nil | fail)))) | fail); (case hd => rfl)) | (apply v_cond; (case hc => rfl); all_goals (intro h; (try simp only [reduceCtorEq, dec_true, dec_false, decide_eq_true_eq, decide_eq_false_iff_not, Bool.not_eq_true', Bool.not_eq_false', Option.isNone_iff_eq_none, beq_true, beq_false, beq_iff_eq, beq_eq_false_iff_ne, ne_eq, decide_eq_decide, Bool.not_eq_true, Bool.not_eq_false, Decidable.not_not] at h); first | (exfalso; omega) | skip)) | (apply v_store; (case hp => rfl); (case hx => rfl); (case hc => rfl); (case hsz => rfl); (case h1 => rfl); (case hb => (repeat (first | exact List.Mem.head _ | apply List.Mem.tail | fail))); (case hfit => first | exact Nat.le_of_ble_eq_true rfl | fail); (case hov => (first | ((repeat (first | with_reducible exact ov_nil | apply ov_cons | fail)); done) | fail)); (case hu => repeat (first | exact Upd.here _ _ | apply Upd.there | fail))) | fail)
    refine v_retM [] (outsM_cct (sz0 := 3) (vs0 := [.int .i64 0, .slice none 0 0, .slice none 0 0]) (e0 := 25) (sz1 := 6) (vs1 := zA.cells) (e1 := 42) rfl rfl (by repeat (first | exact List.Mem.head _ | apply List.Mem.tail | fail)) rfl rfl (by repeat (first | exact List.Mem.head _ | fail)) rfl rfl) (List.nil_sublist _) ⟨rfl, _, rfl, StV.zero _⟩
end Go.Proofs.YtgflmkhfachlcaaGreatDoor
/-
  app (layer 28), the plain law: a state that may be stays one; what answers are.
-/
set_option linter.unusedSimpArgs false
set_option linter.unusedVariables false
namespace Go.Proofs.YtgflmkhfachlcaaGreatDoor
open Go.Vx Go.ChangeShapes Go.WideShapes Go.ChangeAt Go.RowKit
def RevOk (z : Int) (x : Pr) : Prop := (z = 1 ∧ x.rev = 0) ∨ (z = 2 ∧ 1 ≤ x.rev ∧ x.rev ≤ 4294967296)
def PsOk (z : Int) (l : List Pr) : Prop := l.length ≤ 64 ∧ RiseW ksP l ∧ ∀ x ∈ l, PrOk x ∧ RevOk z x
theorem stP_iff {s : St} : StP s ↔ SesP s.sess ∧ (s.schema = 1 ∨ s.schema = 2) ∧ PsOk s.schema s.pairs ∧ (s.schema = 1 → s.sess.any revS = false) := by
  obtain ⟨z, lp, ls⟩ := s
  unfold StP PsOk OneP TwoP
  simp only
  constructor
  · rintro ⟨h1, ⟨rfl, h2, h3, h4, h5⟩ | ⟨rfl, h3, h4, h5⟩⟩
    · exact ⟨h1, .inl rfl, ⟨h3, riseG_pw.1 (adj_rise h4), fun x hx => ⟨(h5 x hx).1, .inl ⟨rfl, (h5 x hx).2⟩⟩⟩, fun _ => h2⟩
    · exact ⟨h1, .inr rfl, ⟨h3, riseG_pw.1 (adj_rise h4), fun x hx => ⟨(h5 x hx).1, .inr ⟨rfl, (h5 x hx).2⟩⟩⟩, fun h => absurd h (by omega)⟩
  · rintro ⟨h1, rfl | rfl, ⟨h3, h4, h5⟩, h2⟩
    · refine ⟨h1, .inl ⟨rfl, h2 rfl, h3, rise_adj (riseG_pw.2 h4), fun x hx => ⟨(h5 x hx).1, ?_⟩⟩⟩
      rcases (h5 x hx).2 with h | h
      · exact h.2
      · exact absurd h.1 (by omega)
    · refine ⟨h1, .inr ⟨rfl, h3, rise_adj (riseG_pw.2 h4), fun x hx => ⟨(h5 x hx).1, ?_⟩⟩⟩
      rcases (h5 x hx).2 with h | h
      · exact absurd h.1 (by omega)
      · exact h.2
theorem keyB_size {s : ByteArray} (h : keyB s = true) : s.size ≤ 24 := by
  unfold keyB at h
  simp only [Bool.and_eq_true, decide_eq_true_eq] at h
  exact h.1.2
theorem valB_size {s : ByteArray} (h : valB s = true) : s.size ≤ 48 := by
  unfold valB at h
  simp only [Bool.and_eq_true, decide_eq_true_eq] at h
  exact h.1.1
theorem valB_empty : valB ByteArray.empty = true := by
  unfold valB
  have h0 : ByteArray.empty.size = 0 := rfl
  simp only [Bool.and_eq_true, decide_eq_true_eq, h0]
  refine ⟨⟨by omega, by unfold badR; omega⟩, fun i hi => by omega⟩
theorem ses_few : ∀ (l : List Ss) (a : Int), RiseW ksS l → (∀ x ∈ l, a ≤ x.client ∧ x.client ≤ 8) → a ≤ 9 → (l.length : Int) ≤ 9 - a
  | [], a, _, _, ha => by simp; omega
  | x :: l, a, h, hx, ha => by
    have h1 := List.pairwise_cons.1 h
    have h2 := hx x List.mem_cons_self
    have := ses_few l (x.client + 1) h1.2 (fun y hy => ⟨by have := h1.1 y hy; simp only [ksS] at this; omega, (hx y (List.mem_cons_of_mem _ hy)).2⟩) (by omega)
    simp only [List.length_cons]
    omega
theorem sesP_few {l : List Ss} (h : SesP l) : l.length ≤ 8 := by
  have := ses_few l 1 (riseG_pw.1 (adjS_rise h.1)) (fun x hx => by
    obtain ⟨h1, h2, h3⟩ := h.2 x hx
    have h4 := (ansI_zero.1 h3).1.1
    omega) (by omega)
  omega
theorem StP.small {s : St} (h : StP s) : StZ s := by
  obtain ⟨h1, h2, ⟨h3, h4, h5⟩, h6⟩ := stP_iff.1 h
  refine ⟨fun x hx => ?_, fun x hx => ?_, by omega, by have := sesP_few h1; omega⟩
  · have := (h5 x hx).1
    have a := keyB_size this.1
    have b := valB_size this.2
    omega
  · have := valB_size (ansI_zero.1 (h1.2 x hx).2.2).2
    omega
/-! ### Pairs -/
theorem withG_ok {z : Int} {l : List Pr} {p : Pr} (h : PsOk z l) (hp : PrOk p) (hr : RevOk z p) (hroom : roomB l (kn p.key) = true) : PsOk z (withG ksP l p) := by
  obtain ⟨h1, h2, h3⟩ := h
  refine ⟨?_, withG_rise h2 p, fun x hx => ?_⟩
  · rw [withG_len h2]
    unfold roomB at hroom
    rw [Bool.or_eq_true, decide_eq_true_eq] at hroom
    split
    · exact h1
    · rename_i hn
      rcases hroom with h | h
      · exact absurd h hn
      · omega
  · rcases withG_mem hx with rfl | hx
    · exact ⟨hp, hr⟩
    · exact h3 x hx
theorem filter_ok {z : Int} {l : List Pr} (f : Pr → Bool) (h : PsOk z l) : PsOk z (l.filter f) :=
  ⟨Nat.le_trans (List.length_filter_le _ _) h.1, h.2.1.sublist List.filter_sublist, fun x hx => h.2.2 x (List.mem_filter.1 hx).1⟩
theorem findP_val {z : Int} {l : List Pr} (h : PsOk z l) (n : Int) : valB (findP l n).val = true ∧ 0 ≤ (findP l n).rev ∧ (findP l n).rev ≤ 4294967296 := by
  unfold findP
  split
  · have := h.2.2 _ (List.getElem_mem (hitG_lt (by assumption)))
    refine ⟨this.1.2, ?_⟩
    rcases this.2 with h | h <;> omega
  · exact ⟨valB_empty, by decide, by decide⟩
/-- An answer of a command that was done. -/
def AnOk (z : Int) (c : Cm) (a : An) : Prop := a.client = c.client ∧ a.seq = c.seq ∧ (0 ≤ a.err ∧ a.err ≤ 17) ∧ (0 ≤ a.rev ∧ a.rev ≤ 4294967296) ∧ valB a.val = true ∧ (z = 1 → a.rev = 0)
theorem nextR_le {r : Int} (h : 0 ≤ r) : 1 ≤ nextR r ∧ nextR r ≤ 4294967296 := by unfold nextR; omega
theorem doOne_an {z : Int} {l : List Pr} (c : Cm) (h : PsOk z l) : AnOk z c (doOne l c).2 ∧ (doOne l c).2.rev = 0 := by
  have hf := (findP_val h (kn c.key)).1
  unfold doOne AnOk ans0
  (repeat' split) <;> (refine ⟨⟨rfl, rfl, by simp, by simp, ?_, fun _ => rfl⟩, rfl⟩; first | exact hf | exact valB_empty)
theorem doOne_ok {l : List Pr} (c : Cm) (h : PsOk 1 l) (hk : keyB c.key = true) (hv : c.kind = 2 → valB c.val = true) : PsOk 1 (doOne l c).1 := by
  unfold doOne
  split
  · split
    · exact withG_ok h ⟨hk, hv (by assumption)⟩ (.inl ⟨rfl, rfl⟩) (by assumption)
    · exact h
  · split
    · exact h
    · split
      · exact filter_ok _ h
      · exact h
theorem room_of_hit {l : List Pr} {n : Int} (h : hitG ksP l n = true) : roomB l n = true := by unfold roomB; rw [h]; rfl
theorem doTwo_ok {l : List Pr} (c : Cm) (h : PsOk 2 l) (hk : keyB c.key = true) (hv : c.kind = 2 ∨ c.kind = 5 → valB c.val = true) : PsOk 2 (doTwo l c).1 := by
  have hf := findP_val h (kn c.key)
  have hn := nextR_le hf.2.1
  unfold doTwo
  split
  · unfold casP
    split
    · exact h
    · rename_i h5 hh
      split
      · exact withG_ok h ⟨hk, hv (by omega)⟩ (.inr ⟨rfl, hn⟩) (room_of_hit (by simpa using hh))
      · exact h
  · split
    · rename_i h5 hc
      unfold doOne at hc ⊢
      rw [if_pos hc.1] at hc ⊢
      split
      · simp only
        rw [withG_twice (by rfl)]
        exact withG_ok h ⟨hk, hv (by omega)⟩ (.inr ⟨rfl, hn⟩) (by assumption)
      · rename_i hr
        rw [if_neg hr] at hc
        exact absurd hc.2 (by simp)
    · rename_i h5 hc
      unfold doOne at hc ⊢
      split
      · rename_i h2
        rw [if_pos h2] at hc
        split
        · rename_i hr
          rw [if_pos hr] at hc
          exact absurd ⟨h2, rfl⟩ hc
        · exact h
      · split
        · exact h
        · split
          · exact filter_ok _ h
          · exact h
theorem doTwo_an {l : List Pr} (c : Cm) (h : PsOk 2 l) : AnOk 2 c (doTwo l c).2 := by
  have hf := findP_val h (kn c.key)
  have hn := nextR_le hf.2.1
  have ho := (doOne_an c h).1
  unfold doTwo
  split
  · unfold casP AnOk ans0
    (repeat' split) <;> (refine ⟨rfl, rfl, by simp, ?_, ?_, fun h => absurd h (by omega)⟩ <;> first | exact hf.1 | exact valB_empty | (simp; done) | (simp; omega) | fail)
  · split
    · exact ho
    · exact ho
theorem doS_ok {z : Int} {l : List Pr} (c : Cm) (hz : z = 1 ∨ z = 2) (h : PsOk z l) (hk : keyB c.key = true) (hv : c.kind = 2 ∨ c.kind = 5 → valB c.val = true) : PsOk z (doS z l c).1 ∧ AnOk z c (doS z l c).2 := by
  unfold doS
  rcases hz with rfl | rfl
  · rw [if_pos rfl]
    exact ⟨doOne_ok c h hk (fun h => hv (.inl h)), (doOne_an c h).1⟩
  · rw [if_neg (by omega)]
    exact ⟨doTwo_ok c h hk hv, doTwo_an c h⟩
/-! ### Sessions -/
theorem sesAt_mem {l : List Ss} {n : Int} (hr : RiseW ksS l) (h : hitG ksS l n = true) : sesAt l n ∈ l ∧ (sesAt l n).client = n := by
  rcases hit_parts hr n with ⟨hlt, h1, h2, -⟩ | ⟨h1, -, -⟩
  · unfold sesAt
    rw [dif_pos h]
    exact ⟨List.getElem_mem _, h2⟩
  · rw [h1] at h; cases h
theorem withS_ok {l : List Ss} {a : An} (h : SesP l) (ha : ansI a = 0) : SesP (withG ksS l (sesOf a)) := by
  refine ⟨rise_adjS (riseG_pw.2 (withG_rise (riseG_pw.1 (adjS_rise h.1)) _)), fun x hx => ?_⟩
  rcases withG_mem hx with rfl | hx
  · exact ⟨rfl, rfl, ha⟩
  · exact h.2 x hx
theorem anOk_ans {z : Int} {c : Cm} {a : An} (h : AnOk z c a) (h1 : 1 ≤ c.client ∧ c.client ≤ 8) (h2 : 1 ≤ c.seq ∧ c.seq ≤ 4294967296) : ansI a = 0 := by
  obtain ⟨e1, e2, e3, e4, e5, e6⟩ := h
  exact ansI_zero.2 ⟨⟨by rw [e1]; exact h1, by rw [e2]; exact h2, e3, e4⟩, e5⟩
/-- What a command is, if it may be. -/
theorem cmd_ok {c : Cm} (h : cmdI c = 0) : (1 ≤ c.kind ∧ c.kind ≤ 8) ∧ ((2 ≤ c.kind ∧ c.kind ≤ 5) → (1 ≤ c.client ∧ c.client ≤ 8) ∧ (1 ≤ c.seq ∧ c.seq ≤ 4294967296) ∧ keyB c.key = true) ∧ (c.kind = 2 ∨ c.kind = 5 → valB c.val = true) := by
  rw [cmdI_eq] at h
  unfold cmdE at h
  split at h
  · exact absurd h (by omega)
  split at h
  · exact absurd h (by omega)
  split at h
  · exact absurd h (by omega)
  rename_i h1 h2 h3
  refine ⟨by omega, fun ho => ⟨by omega, by omega, ?_⟩, fun hk => ?_⟩
  · cases hb : keyB c.key with
    | true => rfl
    | false => exact absurd (.inl ⟨ho, hb⟩) h3
  · cases hb : valB c.val with
    | true => rfl
    | false => exact absurd (.inr (.inl ⟨hk, hb⟩)) h3
theorem which_ok {l : List Ss} (h : SesP l) {n q : Int} (hw : (whichS l n q).1 = 1) : ∃ x ∈ l, x.client = n ∧ x.seq = q ∧ (whichS l n q).2 = x.last ∧ SsOk x := by
  unfold whichS at hw ⊢
  split at hw
  · exact absurd hw (by simp)
  split at hw
  · exact absurd hw (by simp)
  split at hw
  · rename_i h1 h2 h3
    have hm := sesAt_mem (riseG_pw.1 (adjS_rise h.1)) (by simpa using h1)
    rw [if_neg h1, if_neg h2, if_pos h3]
    exact ⟨_, hm.1, hm.2, h3.symm, rfl, h.2 _ hm.1⟩
  · exact absurd hw (by simp)
theorem clientS_ok {s : St} {c : Cm} (h : StP s) (hc : cmdI c = 0) (ho : 2 ≤ c.kind ∧ c.kind ≤ 5) : StP (clientS s c).1 ∧ ansI (clientS s c).2 = 0 ∧ (clientS s c).2.client = c.client ∧ (clientS s c).2.seq = c.seq := by
  obtain ⟨h1, h2, h3, h4⟩ := stP_iff.1 h
  obtain ⟨c1, c2, c3⟩ := cmd_ok hc
  obtain ⟨c4, c5, c6⟩ := c2 ho
  unfold clientS
  split
  · rename_i hw
    obtain ⟨x, hx, e1, e2, e3, e4, e5, e6⟩ := which_ok h1 hw
    rw [e3]
    exact ⟨h, e6, e4.trans e1, e5.trans e2⟩
  split
  · exact ⟨h, anOk_ans (z := 2) (c := c) ⟨rfl, rfl, by simp, by simp [ans0], valB_empty, fun h => absurd h (by omega)⟩ c4 c5, rfl, rfl⟩
  split
  · have hd := doS_ok c h2 h3 c6 c3
    have ha := anOk_ans hd.2 c4 c5
    refine ⟨stP_iff.2 ⟨withS_ok h1 ha, h2, hd.1, fun hz => ?_⟩, ha, hd.2.1, hd.2.2.1⟩
    rw [List.any_eq_false]
    intro x hx
    rcases withG_mem hx with rfl | hx
    · have := hd.2.2.2.2.2.2 hz
      unfold revS
      rw [decide_eq_false (by simpa [sesOf] using this)]
      simp
    · exact List.any_eq_false.1 (h4 hz) x hx
  · exact ⟨h, anOk_ans (z := 2) (c := c) ⟨rfl, rfl, by simp, by simp [ans0], valB_empty, fun h => absurd h (by omega)⟩ c4 c5, rfl, rfl⟩
theorem upS_ok {s : St} (h : StP s) (h1 : s.schema = 1) : StP (upS s) := by
  obtain ⟨h1, h2, ⟨h3, h4, h5⟩, h6⟩ := stP_iff.1 h
  refine stP_iff.2 ⟨h1, .inr rfl, ⟨?_, ?_, ?_⟩, fun hz => absurd (show (2 : Int) = 1 from hz) (by omega)⟩
  · show (s.pairs.map (revOf 1)).length ≤ 64
    rw [List.length_map]; exact h3
  · show RiseW ksP (s.pairs.map (revOf 1))
    exact List.pairwise_map.2 h4
  · intro x hx
    obtain ⟨y, hy, rfl⟩ := List.mem_map.1 hx
    exact ⟨(h5 y hy).1, .inr ⟨rfl, by simp [revOf], by simp [revOf]⟩⟩
theorem applyS_ok {s : St} {c : Cm} (h : StP s) (he : (applyS s c).2.2 = 0) : StP (applyS s c).1 ∧ cmdI c = 0 := by
  unfold applyS at he ⊢
  by_cases hc : cmdI c = 0
  · refine ⟨?_, hc⟩
    rw [if_neg (by simp [hc])]
    split
    · exact (clientS_ok h hc (by assumption)).1
    · split
      · rename_i h1
        exact upS_ok h h1.2
      · exact h
  · rw [if_pos hc] at he
    exact absurd he hc
end Go.Proofs.YtgflmkhfachlcaaGreatDoor
/-
  app (layer 28): commands run.
-/
set_option linter.unusedSimpArgs false
set_option linter.unusedVariables false
namespace Go.Proofs.YtgflmkhfachlcaaGreatDoor
open Go.Vx Go.ChangeShapes Go.WideShapes Go.ChangeAt Go.RowKit
abbrev Cms (G : GH) (v : Value) (l : List Cm) : Prop := Sl G 7 (RowR Cm.cells) v l
theorem Cm.len (x : Cm) : x.cells.length = 7 := rfl
theorem An.len (x : An) : x.cells.length = 6 := rfl
theorem An.one (x : An) : x.cells.all Value.oneCell' = true := rfl
abbrev zAn : Value := .agg #[.int .i64 0, .int .i64 0, .int .i64 0, .bool false, .string ByteArray.empty, .int .i64 0]
abbrev GrA (v : Value) (l : List An) (ν : OH) : Prop := Grow 42 6 v l.length (rowC An.cells l) ν
theorem GrA.snoc {v : Value} {l : List An} {a : An} {ν : OH} (h : Grow 42 6 v (l.length + 1) (rowC An.cells l ++ a.cells) ν) : GrA v (l ++ [a]) ν := by
  unfold GrA
  rw [List.length_append, List.length_singleton, rowC_append, rowC_cons, rowC_nil, List.append_nil]
  exact h
noncomputable def runA (s : St) (acc : List An) : List Cm → St × List An × Int
  | [] => (s, acc, 0)
  | c :: l => if (applyS s c).2.2 ≠ 0 then (zeroSt, [], (applyS s c).2.2) else runA (applyS s c).1 (acc ++ [(applyS s c).2.1]) l
noncomputable def runS (s : St) (l : List Cm) : St × List An × Int := if StP s then runA s [] l else (zeroSt, [], 3)
def CmsW (l : List Cm) : Prop := l.length ≤ 100 ∧ ∀ c ∈ l, c.ok ∧ CmW c
theorem rowOpen' {α : Type} {f : α → List Value} {sz : Nat} {G : GH} {A : Option Addr} {n c : Nat} {l : List α} (h : Sl G sz (RowR f) (.slice A n c) l) : True ∧ True ∧ True ∧ True ∧ True ∧ True ∧ (∀ i (h : i < l.length), CellsG G ((adr A).add (i * sz)) (f l[i])) := by
  obtain ⟨A', c', e, -, -, -, h5⟩ := rowOpen h
  cases e
  exact ⟨trivial, trivial, trivial, trivial, trivial, trivial, h5⟩
theorem run_s {G : GH} (hT : TabsG G) {s : St} {v lv : Value} {l : List Cm} (hs : StV G s v) (hz : StZ s) (hl : Cms G lv l) (hlw : CmsW l) :
    Con Tryz.prog 9 #[v, lv] G [] (fun r G' μ' => ∃ v' av, r = .tuple [v', av, .int .i64 (runS s l).2.2].toArray ∧ StV G' (runS s l).1 v' ∧ GrA av (runS s l).2.1 μ') := by
  have qk := migCheck_s hT hs hz
  have hcn := migClone_s hs (by have := hz.2.2.1; omega) (by have := hz.2.2.2; omega)
  obtain ⟨LA, lc, rfl, hlc, hcm, hsome, hcp⟩ := rowOpen hl
  simp only [maxLen] at hcm
  obtain ⟨A, c0, A', c', rfl, hp, hss⟩ := id hs
  (refine v_enter Tryz.func9 rfl Tryz.ntmps9 rfl ?_; intro B _)
  by_cases hok : StP s
  · rw [if_pos hok] at qk
    have hrun : runS s l = runA s [] l := by unfold runS; rw [if_pos hok]
    rw [hrun]
    clear hrun
    repeat' (first | (apply v_box (d := 2) (zs := [.int .i64 s.schema, .slice A s.pairs.length c0, .slice A' s.sess.length c']); (case hx => rfl); (case hz => rfl); (case hd => rfl); intro b2) | (apply v_alloc (d := 4); (case hz => rfl); (case hd => rfl); intro b4) | apply v_seq | apply v_region | apply v_nil | apply v_skip | (apply v_pure; (case hop => first | (apply p_move <;> rfl) | (apply p_nes <;> rfl) | (apply p_assign <;> rfl) | fail); (case hd => rfl)) | (apply v_condF; (case hc => rfl)) | (apply v_callJ (hs := qk); (case ha => rfl); (case hd => rfl)) | (apply v_read; (case hop => first | (apply r_loadNo; (case hx => rfl); (case h => (repeat (first | exact List.Mem.head _ | apply List.Mem.tail | fail))); (case hd => (repeat (first | with_reducible exact dt_nil | apply dt_here | fail))); (case hn => rfl)) | fail); (case hd => rfl)) | fail)
    refine v_call (μ1 := []) rfl hcn (List.Perm.refl _) rfl ?_
    rintro _ G2 ν2 - ⟨hG2, bp, bs, rfl, rfl⟩
    subst hG2
    refine v_frz [(bs, .cells (rowC Ss.cells s.sess).toArray 55 (0, 0)), (bp, .cells (rowC Pr.cells s.pairs).toArray 65 (0, 0))] (PickA.here _) ?_
    intro G3 hle3 hG3
    have hs3 : StV G3 s _ := StV.made (s := s) (bp := bp) (bs := bs) (by have := hz.2.2.1; omega) (by have := hz.2.2.2; omega) (hG3 _ _ (by (repeat (first | exact List.Mem.head _ | apply List.Mem.tail)))) (hG3 _ _ (by (repeat (first | exact List.Mem.head _ | fail))))
    repeat' (first | apply v_seq | apply v_region | apply v_nil | apply v_block | (apply v_pure; (case hop => first | (apply p_move <;> rfl) | (apply p_assign <;> rfl) | (apply p_lenSlice <;> rfl) | fail); (case hd => rfl)) | (apply v_store; (case hp => rfl); (case hx => rfl); (case hc => rfl); (case hsz => rfl); (case h1 => rfl); (case hb => (repeat (first | exact List.Mem.head _ | apply List.Mem.tail | fail))); (case hfit => first | exact Nat.le_of_ble_eq_true rfl | fail); (case hov => (first | ((repeat (first | with_reducible exact ov_nil | apply ov_cons | fail)); done) | fail)); (case hu => repeat (first | exact Upd.here _ _ | apply Upd.there | fail))) | fail)
    refine v_perm (ν := [(b4, .cells [.int .i64 0, .slice none 0 0, .slice none 0 0].toArray 25 (0, 0)), (b2, .cells [.int .i64 s.schema, .slice (some ⟨bp, 0, none⟩) s.pairs.length s.pairs.length, .slice (some ⟨bs, 0, none⟩) s.sess.length s.sess.length].toArray 25 (0, 0))]) (List.Perm.refl _) ?_
    refine v_loop [24, 23, 22, 8, 2, 4] (fun us G' μ' => GH.le G3 G' ∧ ∃ (k : Nat) (s1 : St) (A1 A1' : Option Addr) (c1 c1' : Nat) (acc : List An) (av : Value) (ν : OH), k ≤ l.length ∧ us = [Value.int .i64 (k : Nat), .int .i64 (l.length : Nat), .slice LA l.length lc, av, .pointer (some ⟨b2, 0, none⟩), .pointer (some ⟨b4, 0, none⟩)] ∧ μ' = (b4, .cells [.int .i64 0, .slice none 0 0, .slice none 0 0].toArray 25 (0, 0)) :: (b2, .cells [.int .i64 s1.schema, .slice A1 s1.pairs.length c1, .slice A1' s1.sess.length c1'].toArray 25 (0, 0)) :: ν ∧ GrA av acc ν ∧ StV G' s1 (.agg [.int .i64 s1.schema, .slice A1 s1.pairs.length c1, .slice A1' s1.sess.length c1'].toArray) ∧ StP s1 ∧ acc.length ≤ k ∧ runA s [] l = runA s1 acc (l.drop k)) (fun us => l.length - (headI us).toNat) rfl ⟨GH.le_refl _, 0, s, _, _, _, _, [], .slice none 0 0, [], by omega, rfl, rfl, Grow.nil _ _, hs3, hok, Nat.le_refl _, rfl⟩ ?_
    rintro us G' _ ⟨hle, k, s1, A1, A1', c1, c1', acc, av, ν, hk, rfl, rfl, hga, hs1, hok1, hak, hrun⟩
    have hn := hlw.1
    have hT' := hT.up (GH.le_trans hle3 hle)
    by_cases hlt : k < l.length
    · have e1 : ((k : Nat) : Int).toNat = k := by omega
      have hA := hsome (by omega)
      obtain ⟨-, -, -, -, -, -, hcp'⟩ := rowOpen' (hl.mono (GH.le_trans hle3 hle))
      have hck := hcp' k hlt
      obtain ⟨hxo, hxw⟩ := hlw.2 _ (List.getElem_mem hlt)
      have hap := apply_s hT' (l[k]) hs1 hok1.small hok1 hxo hxw
      have hnx : runA s [] l = if (applyS s1 l[k]).2.2 ≠ 0 then (zeroSt, [], (applyS s1 l[k]).2.2) else runA (applyS s1 l[k]).1 (acc ++ [(applyS s1 l[k]).2.1]) (l.drop (k + 1)) := by
        rw [hrun, List.drop_eq_getElem_cons hlt]; rfl
      have hkp : (applyS s1 l[k]).2.2 = 0 → StP (applyS s1 l[k]).1 := fun h => (applyS_ok hok1 h).1
      rw [hnx]
      clear hrun hxo hxw
      generalize applyS s1 l[k] = ap at *
      obtain ⟨s5, ⟨ac, aq, ae, af, av5, ar⟩, e5⟩ := ap
      generalize l[k] = x at *
      obtain ⟨kind, cl, seq, key, val, old, node⟩ := x
      simp only at *
      repeat' (first | (apply v_read; (case hop => (apply r_loadN; rfl; exact CellsAt.frozen hck; rfl)); (case hd => rfl)) | (apply v_alloc (d := 10); (case hz => rfl); (case hd => rfl); intro b10) | (apply v_read; (case hop => (apply r_loadNo; (case hx => rfl); (case h => repeat (first | exact List.Mem.head _ | apply List.Mem.tail | fail)); (case hd => rfl); (case hn => rfl))); (case hd => rfl)) | apply v_seq | apply v_region | apply v_nil | apply v_skip | apply v_block | (apply v_pure; (case hop => first | (apply p_lt <;> rfl) | (apply p_indexAddrS; (case hx => rfl); (case hi => rfl); (case h0 => omega); (case h => omega); (case hA => first | assumption | fail)) | fail); (case hd => rfl)) | (apply v_cond; (case hc => rfl); all_goals (intro h; (try simp only [reduceCtorEq, dec_true, dec_false, decide_eq_true_eq, decide_eq_false_iff_not, Bool.not_eq_true', Bool.not_eq_false', Option.isNone_iff_eq_none, beq_true, beq_false, beq_iff_eq, beq_eq_false_iff_ne, ne_eq, decide_eq_decide, Bool.not_eq_true, Bool.not_eq_false, Decidable.not_not] at h); first | (exfalso; omega) | skip)) | (apply v_store; (case hp => rfl); (case hx => rfl); (case hc => rfl); (case hsz => rfl); (case h1 => rfl); (case hb => (repeat (first | exact List.Mem.head _ | fail))); (case hfit => first | exact Nat.le_of_ble_eq_true rfl | fail); (case hov => (first | ((repeat (first | with_reducible exact ov_nil | apply ov_cons | fail)); done) | fail)); (case hu => repeat (first | exact Upd.here _ _ | fail))) | fail)
      refine v_call (μ1 := []) rfl hap (List.Perm.refl _) rfl ?_
      rintro _ G5 _ hle5 ⟨rfl, v5, rfl, hs5⟩
      obtain ⟨A5, c5, A5', c5', rfl, -, -⟩ := id hs5
      repeat' (first | (apply v_alloc (d := 11); (case hz => rfl); (case hd => rfl); intro b11) | (apply v_alloc (d := 12); (case hz => rfl); (case hd => rfl); intro b12) | (apply v_read; (case hop => (apply r_loadNo; (case hx => rfl); (case h => repeat (first | exact List.Mem.head _ | apply List.Mem.tail | fail)); (case hd => rfl); (case hn => rfl))); (case hd => rfl)) | apply v_seq | apply v_region | apply v_nil | apply v_skip | (apply v_pure; (case hop => first | (apply p_move <;> rfl) | (apply p_ne <;> rfl) | (apply p_assign <;> rfl) | (apply p_extract0 <;> rfl) | (apply p_extract1 <;> rfl) | (apply p_extract2 <;> rfl) | (apply p_build; (case hz => rfl); (case hv => (simp only [List.map_cons, List.map_nil]; repeat (first | with_reducible exact evs_nil | fail))); (case hb => (apply bldL; repeat (first | exact bld_nil | fail)))) | fail); (case hd => rfl)) | (apply v_cond; (case hc => rfl); all_goals (intro h; (try simp only [reduceCtorEq, dec_true, dec_false, decide_eq_true_eq, decide_eq_false_iff_not, Bool.not_eq_true', Bool.not_eq_false', Option.isNone_iff_eq_none, beq_true, beq_false, beq_iff_eq, beq_eq_false_iff_ne, ne_eq, decide_eq_decide, Bool.not_eq_true, Bool.not_eq_false, Decidable.not_not] at h); first | skip)) | (apply v_buildSlice; (case hz => rfl); (case hi => rfl); (case hv => (simp only [List.map_cons, List.map_nil]; repeat (first | with_reducible exact evs_nil | (apply evs_cons; (case h1 => rfl))))); (case hp => (first | (apply pk_cons; (case hc => rfl); (case hs => rfl); (case h => (first | with_reducible exact pk_nil | fail)); (case he => (first | rfl))) | fail)); (case hb => rfl); (case hd => rfl); intro b) | (apply v_store; (case hp => rfl); (case hx => rfl); (case hc => rfl); (case hsz => rfl); (case h1 => rfl); (case hb => (repeat (first | exact List.Mem.head _ | apply List.Mem.tail | fail))); (case hfit => first | exact Nat.le_of_ble_eq_true rfl | fail); (case hov => (first | ((repeat (first | with_reducible exact ov_nil | apply ov_cons | fail)); done) | rfl)); (case hu => repeat (first | exact Upd.here _ _ | apply Upd.there | fail))) | fail)
      · rw [if_pos (by assumption)]
        refine v_retM [] (outsM_ctt (sz0 := 3) (vs0 := [.int .i64 0, .slice none 0 0, .slice none 0 0]) (e0 := 25) rfl rfl (by repeat (first | exact List.Mem.head _ | apply List.Mem.tail | fail)) rfl rfl rfl) (List.nil_sublist _) ⟨_, _, rfl, StV.zero _, Grow.nil _ _⟩
      · have he5 : e5 = 0 := by assumption
        rw [if_neg (by simp [he5])]
        refine v_append (e := 42) (agg := true) (sz := 6) (bytes := 56) (zero := zAn) rfl (by omega) rfl rfl hga (μr := [(b, .cells [.int .i64 ac, .int .i64 aq, .int .i64 ae, .bool af, .string av5, .int .i64 ar].toArray 42 (0, 0)), (b12, .cells [.int .i64 ac, .int .i64 aq, .int .i64 ae, .bool af, .string av5, .int .i64 ar].toArray 42 (0, 0)), (b11, .cells [.int .i64 s5.schema, .slice A5 s5.pairs.length c5, .slice A5' s5.sess.length c5'].toArray 25 (0, 0)), (b10, .cells (Cm.cells ⟨kind, cl, seq, key, val, old, node⟩).toArray 38 (0, 0))] ++ [(b4, .cells [.int .i64 0, .slice none 0 0, .slice none 0 0].toArray 25 (0, 0)), (b2, .cells [.int .i64 s5.schema, .slice A5 s5.pairs.length c5, .slice A5' s5.sess.length c5'].toArray 25 (0, 0))]) (List.perm_append_comm (l₁ := [(b, .cells [.int .i64 ac, .int .i64 aq, .int .i64 ae, .bool af, .string av5, .int .i64 ar].toArray 42 (0, 0)), (b12, .cells [.int .i64 ac, .int .i64 aq, .int .i64 ae, .bool af, .string av5, .int .i64 ar].toArray 42 (0, 0)), (b11, .cells [.int .i64 s5.schema, .slice A5 s5.pairs.length c5, .slice A5' s5.sess.length c5'].toArray 25 (0, 0)), (b10, .cells (Cm.cells ⟨kind, cl, seq, key, val, old, node⟩).toArray 38 (0, 0))] ++ [(b4, .cells [.int .i64 0, .slice none 0 0, .slice none 0 0].toArray 25 (0, 0)), (b2, .cells [.int .i64 s5.schema, .slice A5 s5.pairs.length c5, .slice A5' s5.sess.length c5'].toArray 25 (0, 0))]) (l₂ := ν)) (m' := 1) (us := An.cells ⟨ac, aq, ae, af, av5, ar⟩) (Src.own (e := 42) (List.Mem.head _) rfl) rfl (by omega) (by simp only [maxLen]; omega) rfl fun v' ν' hg' => ?_
        have hga' := GrA.snoc hg'
        repeat' (first | apply v_region | apply v_nil | apply v_blk | (apply v_pure; (case hop => first | (apply p_move <;> rfl) | (apply p_assign <;> rfl) | (apply p_add; (case hx => rfl); (case hy => rfl); (case h => omega)) | fail); (case hd => rfl)) | fail)
        refine v_perm (ν := (b4, .cells [.int .i64 0, .slice none 0 0, .slice none 0 0].toArray 25 (0, 0)) :: (b2, .cells [.int .i64 s5.schema, .slice A5 s5.pairs.length c5, .slice A5' s5.sess.length c5'].toArray 25 (0, 0)) :: ν' ++ [(b, .cells [.int .i64 ac, .int .i64 aq, .int .i64 ae, .bool af, .string av5, .int .i64 ar].toArray 42 (0, 0)), (b12, .cells [.int .i64 ac, .int .i64 aq, .int .i64 ae, .bool af, .string av5, .int .i64 ar].toArray 42 (0, 0)), (b11, .cells [.int .i64 s5.schema, .slice A5 s5.pairs.length c5, .slice A5' s5.sess.length c5'].toArray 25 (0, 0)), (b10, .cells (Cm.cells ⟨kind, cl, seq, key, val, old, node⟩).toArray 38 (0, 0))]) (by apply perm_of_count; intro p; simp only [List.append_eq, List.countP_append, List.countP_cons, List.countP_nil, Nat.zero_add, Nat.add_zero]; try ac_rfl) ?_
        refine v_drop (List.sublist_append_left _ _) ?_
        exact v_again rfl ⟨GH.le_trans hle hle5, k + 1, s5, _, _, _, _, _, v', ν', by omega, rfl, rfl, hga', hs5, hkp he5, by rw [List.length_append, List.length_singleton]; omega, rfl⟩ (by simp [headI]; omega)
    · obtain rfl : k = l.length := by omega
      rw [hrun, List.drop_length]
      repeat' (first | apply v_seq | apply v_region | apply v_nil | (apply v_exit; (case hp => rfl)) | (apply v_pure; (case hop => first | (apply p_move <;> rfl) | (apply p_lt <;> rfl) | (apply p_assign <;> rfl) | fail); (case hd => rfl)) | (apply v_cond; (case hc => rfl); all_goals (intro h; (try simp only [reduceCtorEq, dec_true, dec_false, decide_eq_true_eq, decide_eq_false_iff_not, Bool.not_eq_true', Bool.not_eq_false', Option.isNone_iff_eq_none, beq_true, beq_false, beq_iff_eq, beq_eq_false_iff_ne, ne_eq, decide_eq_decide, Bool.not_eq_true, Bool.not_eq_false, Decidable.not_not] at h); first | (exfalso; omega) | skip)) | (apply v_read; (case hop => first | (apply r_loadNo; (case hx => rfl); (case h => (repeat (first | exact List.Mem.head _ | apply List.Mem.tail | fail))); (case hd => (repeat (first | with_reducible exact dt_nil | apply dt_here | fail))); (case hn => rfl)) | fail); (case hd => rfl)) | (apply v_store; (case hp => rfl); (case hx => rfl); (case hc => rfl); (case hsz => rfl); (case h1 => rfl); (case hb => (repeat (first | exact List.Mem.head _ | fail))); (case hfit => first | exact Nat.le_of_ble_eq_true rfl | fail); (case hov => (first | ((repeat (first | with_reducible exact ov_nil | apply ov_cons | fail)); done) | fail)); (case hu => repeat (first | exact Upd.here _ _ | fail))) | fail)
      refine v_perm (ν := ν ++ [(b4, .cells [.int .i64 s1.schema, .slice A1 s1.pairs.length c1, .slice A1' s1.sess.length c1'].toArray 25 (0, 0)), (b2, .cells [.int .i64 s1.schema, .slice A1 s1.pairs.length c1, .slice A1' s1.sess.length c1'].toArray 25 (0, 0))]) (by apply perm_of_count; intro p; simp only [List.append_eq, List.countP_append, List.countP_cons, List.countP_nil, Nat.zero_add, Nat.add_zero]; try ac_rfl) ?_
      refine v_retM ν (outsM_ctt (sz0 := 3) (vs0 := [.int .i64 s1.schema, .slice A1 s1.pairs.length c1, .slice A1' s1.sess.length c1']) (e0 := 25) rfl rfl (by repeat (first | exact List.Mem.head _ | apply List.mem_append_right)) rfl rfl rfl) (List.sublist_append_left _ _) ⟨_, _, rfl, hs1, hga⟩
  · rw [if_neg hok] at qk
    have hrun : runS s l = (zeroSt, [], 3) := by unfold runS; rw [if_neg hok]
    rw [hrun]
    repeat' (first | (apply v_box (d := 2) (zs := [.int .i64 s.schema, .slice A s.pairs.length c0, .slice A' s.sess.length c']); (case hx => rfl); (case hz => rfl); (case hd => rfl); intro b2) | (apply v_alloc (d := 4); (case hz => rfl); (case hd => rfl); intro b4) | apply v_seq | apply v_region | apply v_nil | (apply v_pure; (case hop => first | (apply p_move <;> rfl) | (apply p_ne <;> rfl) | (apply p_assign <;> rfl) | (apply p_build; (case hz => rfl); (case hv => (simp only [List.map_cons, List.map_nil]; repeat (first | with_reducible exact evs_nil | fail))); (case hb => (apply bldL; repeat (first | exact bld_nil | fail)))) | fail); (case hd => rfl)) | (apply v_cond; (case hc => rfl); all_goals (intro h; (try simp only [reduceCtorEq, dec_true, dec_false, decide_eq_true_eq, decide_eq_false_iff_not, Bool.not_eq_true', Bool.not_eq_false', Option.isNone_iff_eq_none, beq_true, beq_false, beq_iff_eq, beq_eq_false_iff_ne, ne_eq, decide_eq_decide, Bool.not_eq_true, Bool.not_eq_false, Decidable.not_not] at h); first | (exfalso; omega) | skip)) | (apply v_callJ (hs := qk); (case ha => rfl); (case hd => rfl)) | (apply v_read; (case hop => first | (apply r_loadNo; (case hx => rfl); (case h => (repeat (first | exact List.Mem.head _ | apply List.Mem.tail | fail))); (case hd => (repeat (first | with_reducible exact dt_nil | apply dt_here | fail))); (case hn => rfl)) | fail); (case hd => rfl)) | (apply v_store; (case hp => rfl); (case hx => rfl); (case hc => rfl); (case hsz => rfl); (case h1 => rfl); (case hb => (repeat (first | exact List.Mem.head _ | fail))); (case hfit => first | exact Nat.le_of_ble_eq_true rfl | fail); (case hov => (first | ((repeat (first | with_reducible exact ov_nil | apply ov_cons | fail)); done) | fail)); (case hu => repeat (first | exact Upd.here _ _ | fail))) | fail)
    refine v_retM [] (outsM_ctt (sz0 := 3) (vs0 := [.int .i64 0, .slice none 0 0, .slice none 0 0]) (e0 := 25) rfl rfl (by repeat (first | exact List.Mem.head _ | fail)) rfl rfl rfl) (List.nil_sublist _) ⟨_, _, rfl, StV.zero _, Grow.nil _ _⟩
end Go.Proofs.YtgflmkhfachlcaaGreatDoor
