/-
  hard (layer 19), the ninth part: the reference's Of.
-/
import Derived.Test.YtnoiahlpmgbhfaaDoorM3
set_option linter.unusedSimpArgs false
set_option linter.unusedVariables false
namespace Go.Proofs.YtnoiahlpmgbhfaaDoor
open Go.Vx Go.ChangeShapes Go.WideShapes Go.ChangeAt Go.RowKit
theorem refLess_s (G : GH) (r n r' n' : Int) : Con Tryd.prog 24 #[.agg #[.int .i64 r, .int .i64 n], .agg #[.int .i64 r', .int .i64 n']] G [] (Just (.bool (decide (lessP r n r' n'))) G) := by
  apply Con.just
  refine v_enter Tryd.func24 rfl Tryd.ntmps24 rfl (fun B => ?_)
  repeat' (first | apply v_seq | apply v_region | apply v_nil | apply v_skip | (apply v_pure; (case hop => first | (apply p_eq <;> rfl) | (apply p_lt <;> rfl) | (apply p_assign <;> rfl) | (apply p_fieldAddrB <;> rfl) | fail); (case hd => rfl)) | (apply v_cond; (case hc => rfl); all_goals (intro h; (try simp only [reduceCtorEq, dec_true, dec_false, decide_eq_true_eq, decide_eq_false_iff_not, Bool.not_eq_true', Bool.not_eq_false', Option.isNone_iff_eq_none, beq_true, beq_false, beq_iff_eq, beq_eq_false_iff_ne, ne_eq, decide_eq_decide, Bool.not_eq_true, Bool.not_eq_false, Decidable.not_not] at h); first | skip)) | (apply v_read; (case hop => first | (apply r_load1; rfl; (apply Cell.own; (case h => (repeat (first | exact List.Mem.head _ | apply List.Mem.tail | fail))); rfl)) | fail); (case hd => rfl)) | (apply v_box; (case hx => rfl); (case hz => rfl); (case hd => rfl); intro b) | fail)
  all_goals
    (refine v_ret [] (outsA1 rfl rfl) (by repeat (first | exact List.nil_sublist _ | fail)) ?_
     refine ⟨?_, rfl⟩
     rw [dec_eq]
     congr 1
     rw [decide_eq_decide]
     unfold lessP
     omega)
theorem r1_take {l : List Rc} {k : Nat} (h : k < l.length) : (l.take (k + 1)).foldl r1 Hd.zero = r1 ((l.take k).foldl r1 Hd.zero) l[k] := by
  rw [List.take_add_one, List.getElem?_eq_getElem h, List.foldl_append]
  rfl
theorem accS_take {b : Int} {l : List Rc} {k : Nat} (h : k < l.length) : (l.take (k + 1)).foldl (accS b) [] = accS b ((l.take k).foldl (accS b) []) l[k] := by
  rw [List.take_add_one, List.getElem?_eq_getElem h, List.foldl_append]
  rfl
theorem choS_take {b : Int} {l : List Rc} {k : Nat} (h : k < l.length) : (l.take (k + 1)).foldl (choS b) [] = choS b ((l.take k).foldl (choS b) []) l[k] := by
  rw [List.take_add_one, List.getElem?_eq_getElem h, List.foldl_append]
  rfl
abbrev nilS : Value := .slice none 0 0
abbrev resO : Obj := .cells (hdL 0 0 0 nilS nilS nilS).toArray 42 (0, 0)
abbrev hardO (L : List Value) : Obj := .cells L.toArray 42 (0, 0)
/-- What is so of the lists of the second pass. -/
structure Two (k : Nat) (acc cho : List Ent) : Prop where
  ra : RiseL acc
  rc : RiseL cho
  na : acc.length ≤ k
  nc : cho.length ≤ k
  oa : ∀ e ∈ acc, e.ok
  oc : ∀ e ∈ cho, e.ok
theorem insN_len (x : Ent) (l : List Ent) : (insN x l).length ≤ l.length + 1 := by
  unfold insN
  split
  · omega
  · exact ins_len x l
theorem two_step {k : Nat} {acc cho : List Ent} (t : Two k acc cho) (b : Int) {x : Rc} (hc : x.cmd.ok) : Two (k + 1) (accS b acc x) (choS b cho x) := by
  have hm : Two (k + 1) acc cho := ⟨t.ra, t.rc, by have := t.na; omega, by have := t.nc; omega, t.oa, t.oc⟩
  have h1 : ∀ acc' cho', acc' = accS b acc x → cho' = choS b cho x → Two (k + 1) acc' cho' := by
    rintro _ _ rfl rfl
    refine ⟨?_, ?_, ?_, ?_, ?_, ?_⟩
    · unfold accS; split
      · exact rise_ins t.ra _
      · exact t.ra
    · unfold choS; split
      · exact rise_insN t.rc _
      · exact t.rc
    · unfold accS; split
      · exact Nat.le_trans (ins_len _ _) (by have := t.na; omega)
      · exact hm.na
    · unfold choS; split
      · exact Nat.le_trans (insN_len _ _) (by have := t.nc; omega)
      · exact hm.nc
    · unfold accS; split
      · rename_i h
        intro e he
        obtain rfl | he := mem_ins he
        · exact (entOf_ok h.1 hc).1
        · exact t.oa e he
      · exact t.oa
    · unfold choS; split
      · rename_i h
        intro e he
        unfold insN at he
        split at he
        · exact t.oc e he
        · obtain rfl | he := mem_ins he
          · exact (entOf_ok h.1 hc).1
          · exact t.oc e he
      · exact t.oc
  exact h1 _ _ rfl rfl
theorem two_zero : Two 0 [] [] := ⟨fun i j hj => by simp at hj, fun i j hj => by simp at hj, by simp, by simp, by simp, by simp⟩
theorem rOf_s {G : GH} {l : List Rc} {lv : Value} (hs : Rs G lv l) (hn : l.length ≤ 200) :
    Con Tryd.prog 21 #[lv] G [] (fun r G' μ' => μ' = [] ∧ ∃ L, r = .agg L.toArray ∧ HdV G' ⟨(l.foldl r1 Hd.zero).pr, (l.foldl r1 Hd.zero).pn, (l.foldl r1 Hd.zero).base, (l.foldl r1 Hd.zero).image, l.foldl (accS (l.foldl r1 Hd.zero).base) [], l.foldl (choS (l.foldl r1 Hd.zero).base) []⟩ L) := by
  obtain ⟨A, c, ivf, rfl, hlc, hcm, hsome, hcp, him, hok⟩ := rsOpen hs
  simp only [maxLen] at hcm
  refine v_enter Tryd.func21 rfl Tryd.ntmps21 rfl (fun B => ?_)
  repeat' (first | apply v_seq | apply v_region | apply v_nil | apply v_block | (apply v_pure; (case hop => first | (apply p_assign <;> rfl) | fail); (case hd => rfl)) | (apply v_alloc; (case hz => rfl); (case hd => rfl); intro b) | fail)
  rename_i ob
  rename Nat => hb
  refine v_loop [4, 0, 3, 2] (fun us G' μ' => G' = G ∧ ∃ (k : Nat) (iv : Value), k ≤ l.length ∧ us = [Value.int .i64 (k : Nat), .slice A l.length c, .pointer (some ⟨hb, 0, none⟩), .pointer (some ⟨ob, 0, none⟩)] ∧ μ' = [(hb, hardO (hdL ((l.take k).foldl r1 Hd.zero).pr ((l.take k).foldl r1 Hd.zero).pn ((l.take k).foldl r1 Hd.zero).base iv nilS nilS)), (ob, resO)] ∧ Sl G 1 (IntR .u8) iv ((l.take k).foldl r1 Hd.zero).image) (fun us => l.length - (headI us).toNat) rfl ⟨rfl, 0, nilS, by omega, rfl, rfl, Sl.nil⟩ ?_
  rintro us G2 μ' ⟨rfl, k, im, hk, rfl, rfl, hi⟩
  by_cases hlt : k < l.length
  · have e1 : ((k : Nat) : Int).toNat = k := by omega
    have hcx := hcp k hlt
    have hix := him k hlt
    have hcok := hok _ (List.getElem_mem hlt)
    have hft := r1_take hlt
    generalize hxe : l[k] = x at *
    generalize ivf k = iv at *
    generalize (l.take k).foldl r1 Hd.zero = H at *
    obtain ⟨Ai, ci, rfl, hic, him2, -⟩ := id hix.openInt
    obtain ⟨Aj, cj, rfl, -⟩ := id hi.openInt
    simp only [maxLen] at him2
    have qc := refRecCheck_s (G := G2) x.kind x.round x.node x.index x.cmd hcok.1 Ai x.image.length ci (by omega)
    by_cases hv : chkI x = 0
    rotate_left
    · have es : r1 H x = H := by unfold r1; rw [if_neg hv]
      have hv' : ¬ recI x.kind x.round x.node x.index x.cmd x.image.length = 0 := hv
      generalize recI x.kind x.round x.node x.index x.cmd x.image.length = I at *
      repeat' (first | apply v_seq | apply v_region | apply v_nil | apply v_skip | apply v_block | (apply v_exit; (case hp => rfl)) | (apply v_pure; (case hop => first | (apply p_move <;> rfl) | (apply p_lt <;> rfl) | (apply p_ne <;> rfl) | (apply p_assign <;> rfl) | (apply p_lenSlice <;> rfl) | (apply p_add; (case hx => rfl); (case hy => rfl); (case h => omega)) | (apply p_indexAddrS; (case hx => rfl); (case hi => rfl); (case h0 => omega); (case h => omega); (case hA => first | (apply_assumption; omega))) | fail); (case hd => rfl)) | (apply v_cond; (case hc => rfl); all_goals (intro h; (try simp only [reduceCtorEq, dec_true, dec_false, decide_eq_true_eq, decide_eq_false_iff_not, Bool.not_eq_true', Bool.not_eq_false', Option.isNone_iff_eq_none, beq_true, beq_false, beq_iff_eq, beq_eq_false_iff_ne, ne_eq, decide_eq_decide, Bool.not_eq_true, Bool.not_eq_false, Decidable.not_not] at h); first | (exfalso; omega) | skip)) | (apply v_read; (case hop => first | (apply r_loadN; rfl; exact CellsAt.frozen hcx; rfl)); (case hd => rfl)) | (apply v_callJ (hs := qc); (case ha => rfl); (case hd => rfl)) | (apply v_read; (case hop => first | (apply r_loadNo; (case hx => rfl); (case h => (repeat (first | exact List.Mem.head _ | fail))); (case hd => (repeat (first | with_reducible exact dt_nil | apply dt_here | fail))); (case hn => rfl)) | fail); (case hd => rfl)) | (apply v_alloc; (case hz => rfl); (case hd => rfl); intro b) | (apply v_store; (case hp => rfl); (case hx => rfl); (case hc => rfl); (case hsz => rfl); (case h1 => rfl); (case hb => (repeat (first | exact List.Mem.head _ | fail))); (case hfit => first | exact Nat.le_of_ble_eq_true rfl | fail); (case hov => (first | ((repeat (first | with_reducible exact ov_nil | apply ov_cons | fail)); done) | fail)); (case hu => repeat (first | exact Upd.here _ _ | fail))) | fail)
      refine v_drop (ν := [(hb, _), (ob, _)]) (by repeat (first | exact List.Sublist.refl _ | apply List.Sublist.cons | fail)) ?_
      refine v_again rfl ⟨rfl, k + 1, _, by omega, rfl, by rw [hft, es], by rw [hft, es]; exact hi⟩ (by simp [headI]; omega)
    rw [show recI x.kind x.round x.node x.index x.cmd x.image.length = 0 from hv] at qc
    have hkk := (rec0 (show recI x.kind x.round x.node x.index x.cmd x.image.length = 0 from hv)).1
    have es : r1 H x = (if x.kind = 1 ∨ x.kind = 2 then H.prom x else if x.kind = 4 ∧ H.base < x.index then { H with base := x.index, image := x.image } else H) := by unfold r1; rw [if_pos hv]
    rw [es] at hft
    have qb := hasBallot_s G2 x.kind
    have ql := refLess_s G2 H.pr H.pn x.round x.node
    by_cases k12 : x.kind = 1 ∨ x.kind = 2
    · rw [if_pos k12] at hft
      rw [decide_eq_true k12] at qb
      unfold Hd.prom at hft
      by_cases hl : lessP H.pr H.pn x.round x.node
      · rw [if_pos hl] at hft
        rw [decide_eq_true hl] at ql
        repeat' (first | apply v_seq | apply v_region | apply v_nil | apply v_skip | apply v_block | apply v_blk | (apply v_take; (case hg => rfl)) | (apply v_pass; (case hg => rfl); (case hn => rfl); (case hd => rfl)) | (apply v_pure; (case hop => first | (apply p_move <;> rfl) | (apply p_nes <;> rfl) | (apply p_eq <;> rfl) | (apply p_lt <;> rfl) | (apply p_assign <;> rfl) | (apply p_pickT <;> rfl) | (apply p_pickF <;> rfl) | (apply p_lenSlice <;> rfl) | (apply p_fieldAddrB <;> rfl) | (apply p_add; (case hx => rfl); (case hy => rfl); (case h => omega)) | (apply p_indexAddrS; (case hx => rfl); (case hi => rfl); (case h0 => omega); (case h => omega); (case hA => first | (apply_assumption; omega))) | fail); (case hd => rfl)) | (apply v_condT; (case hc => rfl)) | (apply v_condF; (case hc => rfl)) | (apply v_cond; (case hc => rfl); all_goals (intro h; (try simp only [reduceCtorEq, dec_true, dec_false, decide_eq_true_eq, decide_eq_false_iff_not, Bool.not_eq_true', Bool.not_eq_false', Option.isNone_iff_eq_none, beq_true, beq_false, beq_iff_eq, beq_eq_false_iff_ne, ne_eq, decide_eq_decide, Bool.not_eq_true, Bool.not_eq_false, Decidable.not_not] at h); first | (exfalso; omega) | skip)) | (apply v_guardB; (case h1 => rfl); (case h2 => rfl); all_goals (intro h; (try simp only [reduceCtorEq, dec_true, dec_false, decide_eq_true_eq, decide_eq_false_iff_not, Bool.not_eq_true', Bool.not_eq_false', Option.isNone_iff_eq_none, beq_true, beq_false, beq_iff_eq, beq_eq_false_iff_ne, ne_eq, decide_eq_decide, Bool.not_eq_true, Bool.not_eq_false, Decidable.not_not] at h); first | (exfalso; omega) | skip)) | (apply v_read; (case hop => first | (apply r_loadN; rfl; exact CellsAt.frozen hcx; rfl)); (case hd => rfl)) | (apply v_callJ (hs := qc); (case ha => rfl); (case hd => rfl)) | (apply v_callJ (hs := qb); (case ha => rfl); (case hd => rfl)) | (apply v_callJ (hs := ql); (case ha => rfl); (case hd => rfl)) | (apply v_read; (case hop => first | (apply r_loadNo; (case hx => rfl); (case h => (repeat (first | exact List.Mem.head _ | apply List.Mem.tail | fail))); (case hd => (repeat (first | with_reducible exact dt_nil | apply dt_here | fail))); (case hn => rfl)) | (apply r_load1; rfl; (apply Cell.own; (case h => (repeat (first | exact List.Mem.head _ | fail))); rfl)) | fail); (case hd => rfl)) | (apply v_alloc; (case hz => rfl); (case hd => rfl); intro b) | (apply v_store; (case hp => rfl); (case hx => rfl); (case hc => rfl); (case hsz => rfl); (case h1 => rfl); (case hb => (repeat (first | exact List.Mem.head _ | apply List.Mem.tail | fail))); (case hfit => first | exact Nat.le_of_ble_eq_true rfl | fail); (case hov => (first | ((repeat (first | with_reducible exact ov_nil | apply ov_cons | fail)); done) | fail)); (case hu => repeat (first | exact Upd.here _ _ | apply Upd.there | fail))) | fail)
        refine v_drop (ν := [(hb, _), (ob, _)]) (by repeat (first | exact List.Sublist.refl _ | apply List.Sublist.cons | fail)) ?_
        refine v_again rfl ⟨rfl, k + 1, _, by omega, rfl, by (rw [hft] <;> rfl), by rw [hft]; exact hi⟩ (by simp [headI]; omega)
      · rw [if_neg hl] at hft
        rw [decide_eq_false hl] at ql
        repeat' (first | apply v_seq | apply v_region | apply v_nil | apply v_skip | apply v_block | apply v_blk | (apply v_take; (case hg => rfl)) | (apply v_pass; (case hg => rfl); (case hn => rfl); (case hd => rfl)) | (apply v_pure; (case hop => first | (apply p_move <;> rfl) | (apply p_nes <;> rfl) | (apply p_eq <;> rfl) | (apply p_lt <;> rfl) | (apply p_assign <;> rfl) | (apply p_pickT <;> rfl) | (apply p_pickF <;> rfl) | (apply p_lenSlice <;> rfl) | (apply p_fieldAddrB <;> rfl) | (apply p_add; (case hx => rfl); (case hy => rfl); (case h => omega)) | (apply p_indexAddrS; (case hx => rfl); (case hi => rfl); (case h0 => omega); (case h => omega); (case hA => first | (apply_assumption; omega))) | fail); (case hd => rfl)) | (apply v_condF; (case hc => rfl)) | (apply v_cond; (case hc => rfl); all_goals (intro h; (try simp only [reduceCtorEq, dec_true, dec_false, decide_eq_true_eq, decide_eq_false_iff_not, Bool.not_eq_true', Bool.not_eq_false', Option.isNone_iff_eq_none, beq_true, beq_false, beq_iff_eq, beq_eq_false_iff_ne, ne_eq, decide_eq_decide, Bool.not_eq_true, Bool.not_eq_false, Decidable.not_not] at h); first | (exfalso; omega) | skip)) | (apply v_guardB; (case h1 => rfl); (case h2 => rfl); all_goals (intro h; (try simp only [reduceCtorEq, dec_true, dec_false, decide_eq_true_eq, decide_eq_false_iff_not, Bool.not_eq_true', Bool.not_eq_false', Option.isNone_iff_eq_none, beq_true, beq_false, beq_iff_eq, beq_eq_false_iff_ne, ne_eq, decide_eq_decide, Bool.not_eq_true, Bool.not_eq_false, Decidable.not_not] at h); first | (exfalso; omega) | skip)) | (apply v_read; (case hop => first | (apply r_loadN; rfl; exact CellsAt.frozen hcx; rfl)); (case hd => rfl)) | (apply v_callJ (hs := qc); (case ha => rfl); (case hd => rfl)) | (apply v_callJ (hs := qb); (case ha => rfl); (case hd => rfl)) | (apply v_callJ (hs := ql); (case ha => rfl); (case hd => rfl)) | (apply v_read; (case hop => first | (apply r_loadNo; (case hx => rfl); (case h => (repeat (first | exact List.Mem.head _ | apply List.Mem.tail | fail))); (case hd => (repeat (first | with_reducible exact dt_nil | apply dt_here | fail))); (case hn => rfl)) | (apply r_load1; rfl; (apply Cell.own; (case h => (repeat (first | exact List.Mem.head _ | fail))); rfl)) | fail); (case hd => rfl)) | (apply v_alloc; (case hz => rfl); (case hd => rfl); intro b) | (apply v_store; (case hp => rfl); (case hx => rfl); (case hc => rfl); (case hsz => rfl); (case h1 => rfl); (case hb => (repeat (first | exact List.Mem.head _ | fail))); (case hfit => first | exact Nat.le_of_ble_eq_true rfl | fail); (case hov => (first | ((repeat (first | with_reducible exact ov_nil | apply ov_cons | fail)); done) | fail)); (case hu => repeat (first | exact Upd.here _ _ | fail))) | fail)
        refine v_drop (ν := [(hb, _), (ob, _)]) (by repeat (first | exact List.Sublist.refl _ | apply List.Sublist.cons | fail)) ?_
        refine v_again rfl ⟨rfl, k + 1, _, by omega, rfl, by (rw [hft] <;> rfl), by rw [hft]; exact hi⟩ (by simp [headI]; omega)
    · rw [if_neg k12] at hft
      rw [decide_eq_false k12] at qb
      by_cases k4 : x.kind = 4 ∧ H.base < x.index
      · rw [if_pos k4] at hft
        repeat' (first | apply v_seq | apply v_region | apply v_nil | apply v_skip | apply v_block | apply v_blk | (apply v_take; (case hg => rfl)) | (apply v_pass; (case hg => rfl); (case hn => rfl); (case hd => rfl)) | (apply v_pure; (case hop => first | (apply p_move <;> rfl) | (apply p_nes <;> rfl) | (apply p_eq <;> rfl) | (apply p_lt <;> rfl) | (apply p_gt <;> rfl) | (apply p_assign <;> rfl) | (apply p_pickT <;> rfl) | (apply p_pickF <;> rfl) | (apply p_lenSlice <;> rfl) | (apply p_fieldAddrB <;> rfl) | (apply p_add; (case hx => rfl); (case hy => rfl); (case h => omega)) | (apply p_indexAddrS; (case hx => rfl); (case hi => rfl); (case h0 => omega); (case h => omega); (case hA => first | (apply_assumption; omega))) | fail); (case hd => rfl)) | (apply v_condF; (case hc => rfl)) | (apply v_cond; (case hc => rfl); all_goals (intro h; (try simp only [reduceCtorEq, dec_true, dec_false, decide_eq_true_eq, decide_eq_false_iff_not, Bool.not_eq_true', Bool.not_eq_false', Option.isNone_iff_eq_none, beq_true, beq_false, beq_iff_eq, beq_eq_false_iff_ne, ne_eq, decide_eq_decide, Bool.not_eq_true, Bool.not_eq_false, Decidable.not_not] at h); first | (exfalso; omega) | skip)) | (apply v_guardB; (case h1 => rfl); (case h2 => rfl); all_goals (intro h; (try simp only [reduceCtorEq, dec_true, dec_false, decide_eq_true_eq, decide_eq_false_iff_not, Bool.not_eq_true', Bool.not_eq_false', Option.isNone_iff_eq_none, beq_true, beq_false, beq_iff_eq, beq_eq_false_iff_ne, ne_eq, decide_eq_decide, Bool.not_eq_true, Bool.not_eq_false, Decidable.not_not] at h); first | (exfalso; omega) | skip)) | (apply v_read; (case hop => first | (apply r_loadN; rfl; exact CellsAt.frozen hcx; rfl)); (case hd => rfl)) | (apply v_callJ (hs := qc); (case ha => rfl); (case hd => rfl)) | (apply v_callJ (hs := qb); (case ha => rfl); (case hd => rfl)) | (apply v_read; (case hop => first | (apply r_loadNo; (case hx => rfl); (case h => (repeat (first | exact List.Mem.head _ | fail))); (case hd => (repeat (first | with_reducible exact dt_nil | apply dt_here | fail))); (case hn => rfl)) | (apply r_load1; rfl; (apply Cell.own; (case h => (repeat (first | exact List.Mem.head _ | apply List.Mem.tail | fail))); rfl)) | fail); (case hd => rfl)) | (apply v_alloc; (case hz => rfl); (case hd => rfl); intro b) | (apply v_store; (case hp => rfl); (case hx => rfl); (case hc => rfl); (case hsz => rfl); (case h1 => rfl); (case hb => (repeat (first | exact List.Mem.head _ | apply List.Mem.tail | fail))); (case hfit => first | exact Nat.le_of_ble_eq_true rfl | fail); (case hov => (first | ((repeat (first | with_reducible exact ov_nil | apply ov_cons | fail)); done) | fail)); (case hu => repeat (first | exact Upd.here _ _ | apply Upd.there | fail))) | fail)
        refine v_drop (ν := [(hb, _), (ob, _)]) (by repeat (first | exact List.Sublist.refl _ | apply List.Sublist.cons | fail)) ?_
        refine v_again rfl ⟨rfl, k + 1, _, by omega, rfl, by (rw [hft] <;> rfl), by rw [hft]; exact hix⟩ (by simp [headI]; omega)
      · rw [if_neg k4] at hft
        repeat' (first | apply v_seq | apply v_region | apply v_nil | apply v_skip | apply v_block | apply v_blk | (apply v_take; (case hg => rfl)) | (apply v_pass; (case hg => rfl); (case hn => rfl); (case hd => rfl)) | (apply v_pure; (case hop => first | (apply p_move <;> rfl) | (apply p_nes <;> rfl) | (apply p_eq <;> rfl) | (apply p_lt <;> rfl) | (apply p_gt <;> rfl) | (apply p_assign <;> rfl) | (apply p_pickT <;> rfl) | (apply p_pickF <;> rfl) | (apply p_lenSlice <;> rfl) | (apply p_fieldAddrB <;> rfl) | (apply p_add; (case hx => rfl); (case hy => rfl); (case h => omega)) | (apply p_indexAddrS; (case hx => rfl); (case hi => rfl); (case h0 => omega); (case h => omega); (case hA => first | (apply_assumption; omega))) | fail); (case hd => rfl)) | (apply v_condF; (case hc => rfl)) | (apply v_cond; (case hc => rfl); all_goals (intro h; (try simp only [reduceCtorEq, dec_true, dec_false, decide_eq_true_eq, decide_eq_false_iff_not, Bool.not_eq_true', Bool.not_eq_false', Option.isNone_iff_eq_none, beq_true, beq_false, beq_iff_eq, beq_eq_false_iff_ne, ne_eq, decide_eq_decide, Bool.not_eq_true, Bool.not_eq_false, Decidable.not_not] at h); first | (exfalso; omega) | skip)) | (apply v_guardB; (case h1 => rfl); (case h2 => rfl); all_goals (intro h; (try simp only [reduceCtorEq, dec_true, dec_false, decide_eq_true_eq, decide_eq_false_iff_not, Bool.not_eq_true', Bool.not_eq_false', Option.isNone_iff_eq_none, beq_true, beq_false, beq_iff_eq, beq_eq_false_iff_ne, ne_eq, decide_eq_decide, Bool.not_eq_true, Bool.not_eq_false, Decidable.not_not] at h); first | skip)) | (apply v_read; (case hop => first | (apply r_loadN; rfl; exact CellsAt.frozen hcx; rfl)); (case hd => rfl)) | (apply v_callJ (hs := qc); (case ha => rfl); (case hd => rfl)) | (apply v_callJ (hs := qb); (case ha => rfl); (case hd => rfl)) | (apply v_read; (case hop => first | (apply r_loadNo; (case hx => rfl); (case h => (repeat (first | exact List.Mem.head _ | fail))); (case hd => (repeat (first | with_reducible exact dt_nil | apply dt_here | fail))); (case hn => rfl)) | (apply r_load1; rfl; (apply Cell.own; (case h => (repeat (first | exact List.Mem.head _ | apply List.Mem.tail | fail))); rfl)) | fail); (case hd => rfl)) | (apply v_alloc; (case hz => rfl); (case hd => rfl); intro b) | (apply v_store; (case hp => rfl); (case hx => rfl); (case hc => rfl); (case hsz => rfl); (case h1 => rfl); (case hb => (repeat (first | exact List.Mem.head _ | fail))); (case hfit => first | exact Nat.le_of_ble_eq_true rfl | fail); (case hov => (first | ((repeat (first | with_reducible exact ov_nil | apply ov_cons | fail)); done) | fail)); (case hu => repeat (first | exact Upd.here _ _ | fail))) | fail)
        all_goals
          (refine v_drop (ν := [(hb, _), (ob, _)]) (by repeat (first | exact List.Sublist.refl _ | apply List.Sublist.cons | fail)) ?_
           refine v_again rfl ⟨rfl, k + 1, _, by omega, rfl, by (rw [hft] <;> rfl), by rw [hft]; exact hi⟩ (by simp [headI]; omega))
  obtain rfl : k = l.length := by omega
  rw [List.take_length] at hi ⊢
  generalize l.foldl r1 Hd.zero = H at *
  repeat' (first | apply v_seq | apply v_region | apply v_nil | apply v_block | (apply v_exit; (case hp => rfl)) | (apply v_pure; (case hop => first | (apply p_move <;> rfl) | (apply p_lt <;> rfl) | (apply p_assign <;> rfl) | (apply p_lenSlice <;> rfl) | fail); (case hd => rfl)) | (apply v_cond; (case hc => rfl); all_goals (intro h; (try simp only [reduceCtorEq, dec_true, dec_false, decide_eq_true_eq, decide_eq_false_iff_not, Bool.not_eq_true', Bool.not_eq_false', Option.isNone_iff_eq_none, beq_true, beq_false, beq_iff_eq, beq_eq_false_iff_ne, ne_eq, decide_eq_decide, Bool.not_eq_true, Bool.not_eq_false, Decidable.not_not] at h); first | (exfalso; omega) | skip)) | fail)
  refine v_loop [6, 0, 3, 2] (fun us G' μ' => GH.le G2 G' ∧ ∃ (k : Nat) (L : List Value), k ≤ l.length ∧ us = [Value.int .i64 (k : Nat), .slice A l.length c, .pointer (some ⟨hb, 0, none⟩), .pointer (some ⟨ob, 0, none⟩)] ∧ μ' = [(hb, hardO L), (ob, resO)] ∧ HdV G' ⟨H.pr, H.pn, H.base, H.image, (l.take k).foldl (accS H.base) [], (l.take k).foldl (choS H.base) []⟩ L ∧ Two k ((l.take k).foldl (accS H.base) []) ((l.take k).foldl (choS H.base) [])) (fun us => l.length - (headI us).toNat) rfl ⟨GH.le_refl _, 0, _, by omega, rfl, rfl, ⟨im, nilS, nilS, rfl, hi, Sl.nil, Sl.nil⟩, two_zero⟩ ?_
  rintro us G3 μ' ⟨hle, k, L, hk, rfl, rfl, hh, ht⟩
  obtain ⟨im2, av, cv, rfl, hi2, ha, hc⟩ := hh
  simp only at hi2 ha hc
  obtain ⟨A0, c0, rfl, -⟩ := id hi2.openInt
  obtain ⟨A1, c1, rfl, -⟩ := id ha.open
  obtain ⟨A2, c2, rfl, -⟩ := id hc.open
  by_cases hlt : k < l.length
  · have e1 : ((k : Nat) : Int).toNat = k := by omega
    have hcx := (hcp k hlt).le hle
    have hix := (him k hlt).mono hle
    have hcok := hok _ (List.getElem_mem hlt)
    have hfa := accS_take (b := H.base) hlt
    have hfc := choS_take (b := H.base) hlt
    have ht' := two_step ht H.base hcok.1
    generalize hxe : l[k] = x at *
    rw [← hfa, ← hfc] at ht'
    generalize ivf k = iv at *
    obtain ⟨Ai, ci, rfl, hic, him2, -⟩ := id hix.openInt
    simp only [maxLen] at him2
    have qc := refRecCheck_s (G := G3) x.kind x.round x.node x.index x.cmd hcok.1 Ai x.image.length ci (by omega)
    have qh := hasCmd_s G3 x.kind
    have na := ht.na
    have nc := ht.nc
    have qwa := refWith_s (entOf x) ha ht.ra (by omega)
    have qwc := refWith_s (entOf x) hc ht.rc (by omega)
    have qf := refEntFind_s x.index hc ht.rc
    have hbi := hitB_iff ht.rc x.index
    have hwa := withL_ins ht.ra (entOf x)
    have hwc := withL_ins ht.rc (entOf x)
    generalize (l.take k).foldl (accS H.base) [] = acc at *
    generalize (l.take k).foldl (choS H.base) [] = cho at *
    by_cases hsame : ¬ (chkI x = 0 ∧ (x.kind = 2 ∨ x.kind = 3) ∧ H.base < x.index)
    · have ea : accS H.base acc x = acc := by rw [accS, if_neg fun h => hsame ⟨h.1, .inl h.2.1, h.2.2⟩]
      have ec : choS H.base cho x = cho := by rw [choS, if_neg fun h => hsame ⟨h.1, .inr h.2.1, h.2.2⟩]
      rw [ea] at hfa
      rw [ec] at hfc
      have hfin : HdV G3 ⟨H.pr, H.pn, H.base, H.image, (l.take (k + 1)).foldl (accS H.base) [], (l.take (k + 1)).foldl (choS H.base) []⟩ (hdL H.pr H.pn H.base (.slice A0 H.image.length c0) (.slice A1 acc.length c1) (.slice A2 cho.length c2)) := by rw [hfa, hfc]; exact ⟨_, _, _, rfl, hi2, ha, hc⟩
      by_cases hv : chkI x = 0
      · rw [show recI x.kind x.round x.node x.index x.cmd x.image.length = 0 from hv] at qc
        have hsame' : ¬ ((x.kind = 2 ∨ x.kind = 3) ∧ H.base < x.index) := fun h => hsame ⟨hv, h⟩
        repeat' (first | apply v_seq | apply v_region | apply v_nil | apply v_skip | apply v_block | (apply v_exit; (case hp => rfl)) | (apply v_take; (case hg => rfl)) | (apply v_pass; (case hg => rfl); (case hn => rfl); (case hd => rfl)) | (apply v_pure; (case hop => first | (apply p_move <;> rfl) | (apply p_nes <;> rfl) | (apply p_lt <;> rfl) | (apply p_le <;> rfl) | (apply p_assign <;> rfl) | (apply p_pickT <;> rfl) | (apply p_pickF <;> rfl) | (apply p_not <;> rfl) | (apply p_lenSlice <;> rfl) | (apply p_fieldAddrB <;> rfl) | (apply p_add; (case hx => rfl); (case hy => rfl); (case h => omega)) | (apply p_indexAddrS; (case hx => rfl); (case hi => rfl); (case h0 => omega); (case h => omega); (case hA => first | (apply_assumption; omega))) | fail); (case hd => rfl)) | (apply v_condT; (case hc => rfl)) | (apply v_cond; (case hc => rfl); all_goals (intro h; (try simp only [reduceCtorEq, dec_true, dec_false, decide_eq_true_eq, decide_eq_false_iff_not, Bool.not_eq_true', Bool.not_eq_false', Option.isNone_iff_eq_none, beq_true, beq_false, beq_iff_eq, beq_eq_false_iff_ne, ne_eq, decide_eq_decide, Bool.not_eq_true, Bool.not_eq_false, Decidable.not_not] at h); first | (exfalso; omega) | skip)) | (apply v_guardB; (case h1 => rfl); (case h2 => rfl); all_goals (intro h; (try simp only [reduceCtorEq, dec_true, dec_false, decide_eq_true_eq, decide_eq_false_iff_not, Bool.not_eq_true', Bool.not_eq_false', Option.isNone_iff_eq_none, beq_true, beq_false, beq_iff_eq, beq_eq_false_iff_ne, ne_eq, decide_eq_decide, Bool.not_eq_true, Bool.not_eq_false, Decidable.not_not] at h); first | skip)) | (apply v_read; (case hop => first | (apply r_loadN; rfl; exact CellsAt.frozen hcx; rfl)); (case hd => rfl)) | (apply v_callJ (hs := qc); (case ha => rfl); (case hd => rfl)) | (apply v_callJ (hs := qh); (case ha => rfl); (case hd => rfl)) | (apply v_read; (case hop => first | (apply r_loadNo; (case hx => rfl); (case h => (repeat (first | exact List.Mem.head _ | fail))); (case hd => (repeat (first | with_reducible exact dt_nil | apply dt_here | fail))); (case hn => rfl)) | (apply r_load1; rfl; (apply Cell.own; (case h => (repeat (first | exact List.Mem.head _ | apply List.Mem.tail | fail))); rfl)) | fail); (case hd => rfl)) | (apply v_alloc; (case hz => rfl); (case hd => rfl); intro b) | (apply v_store; (case hp => rfl); (case hx => rfl); (case hc => rfl); (case hsz => rfl); (case h1 => rfl); (case hb => (repeat (first | exact List.Mem.head _ | fail))); (case hfit => first | exact Nat.le_of_ble_eq_true rfl | fail); (case hov => (first | ((repeat (first | with_reducible exact ov_nil | apply ov_cons | fail)); done) | fail)); (case hu => repeat (first | exact Upd.here _ _ | fail))) | fail)
        all_goals first
          | (exfalso; omega)
          | (refine v_drop (ν := [(hb, _), (ob, _)]) (by repeat (first | exact List.Sublist.refl _ | apply List.Sublist.cons | fail)) ?_
             exact v_again rfl ⟨hle, k + 1, _, by omega, rfl, rfl, hfin, ht'⟩ (by simp [headI]; omega))
      · have hv' : ¬ recI x.kind x.round x.node x.index x.cmd x.image.length = 0 := hv
        generalize recI x.kind x.round x.node x.index x.cmd x.image.length = I at *
        repeat' (first | apply v_seq | apply v_region | apply v_nil | apply v_skip | apply v_block | (apply v_exit; (case hp => rfl)) | (apply v_pass; (case hg => rfl); (case hn => rfl); (case hd => rfl)) | (apply v_pure; (case hop => first | (apply p_move <;> rfl) | (apply p_lt <;> rfl) | (apply p_ne <;> rfl) | (apply p_assign <;> rfl) | (apply p_pickT <;> rfl) | (apply p_lenSlice <;> rfl) | (apply p_add; (case hx => rfl); (case hy => rfl); (case h => omega)) | (apply p_indexAddrS; (case hx => rfl); (case hi => rfl); (case h0 => omega); (case h => omega); (case hA => first | (apply_assumption; omega))) | fail); (case hd => rfl)) | (apply v_condT; (case hc => rfl)) | (apply v_cond; (case hc => rfl); all_goals (intro h; (try simp only [reduceCtorEq, dec_true, dec_false, decide_eq_true_eq, decide_eq_false_iff_not, Bool.not_eq_true', Bool.not_eq_false', Option.isNone_iff_eq_none, beq_true, beq_false, beq_iff_eq, beq_eq_false_iff_ne, ne_eq, decide_eq_decide, Bool.not_eq_true, Bool.not_eq_false, Decidable.not_not] at h); first | (exfalso; omega) | skip)) | (apply v_guardB; (case h1 => rfl); (case h2 => rfl); all_goals (intro h; (try simp only [reduceCtorEq, dec_true, dec_false, decide_eq_true_eq, decide_eq_false_iff_not, Bool.not_eq_true', Bool.not_eq_false', Option.isNone_iff_eq_none, beq_true, beq_false, beq_iff_eq, beq_eq_false_iff_ne, ne_eq, decide_eq_decide, Bool.not_eq_true, Bool.not_eq_false, Decidable.not_not] at h); first | (exfalso; omega) | skip)) | (apply v_read; (case hop => first | (apply r_loadN; rfl; exact CellsAt.frozen hcx; rfl)); (case hd => rfl)) | (apply v_callJ (hs := qc); (case ha => rfl); (case hd => rfl)) | (apply v_read; (case hop => first | (apply r_loadNo; (case hx => rfl); (case h => (repeat (first | exact List.Mem.head _ | fail))); (case hd => (repeat (first | with_reducible exact dt_nil | apply dt_here | fail))); (case hn => rfl)) | fail); (case hd => rfl)) | (apply v_alloc; (case hz => rfl); (case hd => rfl); intro b) | (apply v_store; (case hp => rfl); (case hx => rfl); (case hc => rfl); (case hsz => rfl); (case h1 => rfl); (case hb => (repeat (first | exact List.Mem.head _ | fail))); (case hfit => first | exact Nat.le_of_ble_eq_true rfl | fail); (case hov => (first | ((repeat (first | with_reducible exact ov_nil | apply ov_cons | fail)); done) | fail)); (case hu => repeat (first | exact Upd.here _ _ | fail))) | fail)
        all_goals first
          | (exfalso; omega)
          | (refine v_drop (ν := [(hb, _), (ob, _)]) (by repeat (first | exact List.Sublist.refl _ | apply List.Sublist.cons | fail)) ?_
             exact v_again rfl ⟨hle, k + 1, _, by omega, rfl, rfl, hfin, ht'⟩ (by simp [headI]; omega))
    obtain ⟨hv, hk23, hlb⟩ := Decidable.not_not.1 hsame
    rw [show recI x.kind x.round x.node x.index x.cmd x.image.length = 0 from hv] at qc
    rw [decide_eq_true hk23] at qh
    by_cases k2 : x.kind = 2
    · have ea : accS H.base acc x = withL acc (entOf x) := by rw [accS, if_pos ⟨hv, k2, hlb⟩, hwa]
      have ec : choS H.base cho x = cho := by rw [choS, if_neg fun h => by omega]
      rw [ea] at hfa
      rw [ec] at hfc
      repeat' (first | apply v_seq | apply v_region | apply v_nil | apply v_skip | apply v_block | (apply v_take; (case hg => rfl)) | (apply v_pure; (case hop => first | (apply p_move <;> rfl) | (apply p_nes <;> rfl) | (apply p_eq <;> rfl) | (apply p_lt <;> rfl) | (apply p_le <;> rfl) | (apply p_pickF <;> rfl) | (apply p_not <;> rfl) | (apply p_lenSlice <;> rfl) | (apply p_fieldAddrB <;> rfl) | (apply p_indexAddrS; (case hx => rfl); (case hi => rfl); (case h0 => omega); (case h => omega); (case hA => first | (apply_assumption; omega))) | (apply p_build; (case hz => rfl); (case hv => (simp only [List.map_cons, List.map_nil]; repeat (first | with_reducible exact evs_nil | (apply evs_cons; (case h1 => rfl))))); (case hb => (apply bldL; repeat (first | exact bld_nil | (apply bld_cons; (case hpf => rfl); (case hc => rfl); (case hs => rfl); (case hl => rfl); (case ho => (first | ((repeat (first | with_reducible exact ov_nil | apply ov_cons | fail)); done) | fail))))))) | fail); (case hd => rfl)) | (apply v_condF; (case hc => rfl)) | (apply v_cond; (case hc => rfl); all_goals (intro h; (try simp only [reduceCtorEq, dec_true, dec_false, decide_eq_true_eq, decide_eq_false_iff_not, Bool.not_eq_true', Bool.not_eq_false', Option.isNone_iff_eq_none, beq_true, beq_false, beq_iff_eq, beq_eq_false_iff_ne, ne_eq, decide_eq_decide, Bool.not_eq_true, Bool.not_eq_false, Decidable.not_not] at h); first | (exfalso; omega) | skip)) | (apply v_guardB; (case h1 => rfl); (case h2 => rfl); all_goals (intro h; (try simp only [reduceCtorEq, dec_true, dec_false, decide_eq_true_eq, decide_eq_false_iff_not, Bool.not_eq_true', Bool.not_eq_false', Option.isNone_iff_eq_none, beq_true, beq_false, beq_iff_eq, beq_eq_false_iff_ne, ne_eq, decide_eq_decide, Bool.not_eq_true, Bool.not_eq_false, Decidable.not_not] at h); first | (exfalso; omega) | skip)) | (apply v_read; (case hop => first | (apply r_loadN; rfl; exact CellsAt.frozen hcx; rfl)); (case hd => rfl)) | (apply v_callJ (hs := qc); (case ha => rfl); (case hd => rfl)) | (apply v_callJ (hs := qh); (case ha => rfl); (case hd => rfl)) | (apply v_read; (case hop => first | (apply r_loadNo; (case hx => rfl); (case h => (repeat (first | exact List.Mem.head _ | fail))); (case hd => (repeat (first | with_reducible exact dt_nil | apply dt_here | fail))); (case hn => rfl)) | (apply r_load1; rfl; (apply Cell.own; (case h => (repeat (first | exact List.Mem.head _ | apply List.Mem.tail | fail))); rfl)) | fail); (case hd => rfl)) | (apply v_alloc; (case hz => rfl); (case hd => rfl); intro b) | (apply v_store; (case hp => rfl); (case hx => rfl); (case hc => rfl); (case hsz => rfl); (case h1 => rfl); (case hb => (repeat (first | exact List.Mem.head _ | fail))); (case hfit => first | exact Nat.le_of_ble_eq_true rfl | fail); (case hov => (first | ((repeat (first | with_reducible exact ov_nil | apply ov_cons | fail)); done) | fail)); (case hu => repeat (first | exact Upd.here _ _ | fail))) | fail)
      refine v_call (μ1 := []) (μ2 := _) rfl qwa (List.Perm.refl _) rfl ?_
      rintro r G4 ν - ⟨rfl, hg⟩
      obtain ⟨A5, c5, rfl, -, -⟩ := hg.shape
      repeat' (first | apply v_region | apply v_nil | apply v_blk | (apply v_pure; (case hop => first | (apply p_move <;> rfl) | (apply p_assign <;> rfl) | (apply p_fieldAddrB <;> rfl) | (apply p_add; (case hx => rfl); (case hy => rfl); (case h => omega)) | fail); (case hd => rfl)) | (apply v_store; (case hp => rfl); (case hx => rfl); (case hc => rfl); (case hsz => rfl); (case h1 => rfl); (case hb => (repeat (first | exact List.Mem.head _ | apply List.Mem.tail | apply List.mem_append_right))); (case hfit => first | exact Nat.le_of_ble_eq_true rfl | fail); (case hov => (first | ((repeat (first | with_reducible exact ov_nil | apply ov_cons | fail)); done) | fail)); (case hu => repeat (first | exact Upd.here _ _ | apply Upd.there | apply Upd.app))) | fail)
      refine v_frz ν (by repeat (first | exact PickA.here _ | fail)) ?_
      intro G5 hle5 hG5
      refine v_drop (ν := [(hb, _), (ob, _)]) (by repeat (first | exact List.Sublist.refl _ | apply List.Sublist.cons | fail)) ?_
      refine v_again rfl ⟨GH.le_trans hle hle5, k + 1, _, by omega, rfl, rfl, ?_, ht'⟩ (by simp [headI]; omega)
      rw [hfc, hfa]
      rw [hfa] at ht'
      exact ⟨_, _, _, rfl, hi2.mono hle5, es_of_grow hg hG5 ht'.oa, esle hc hle5⟩
    · have k3 : x.kind = 3 := by omega
      have ea : accS H.base acc x = acc := by rw [accS, if_neg fun h => k2 h.2.1]
      rw [ea] at hfa
      by_cases hb3 : hitB cho x.index = true
      · have ec : choS H.base cho x = cho := by rw [choS, if_pos ⟨hv, k3, hlb⟩, insN, if_pos (show ∃ y ∈ cho, y.index = (entOf x).index from hbi.1 hb3)]
        rw [ec] at hfc
        rw [if_pos hb3] at qf
        have hfin : HdV G3 ⟨H.pr, H.pn, H.base, H.image, (l.take (k + 1)).foldl (accS H.base) [], (l.take (k + 1)).foldl (choS H.base) []⟩ (hdL H.pr H.pn H.base (.slice A0 H.image.length c0) (.slice A1 acc.length c1) (.slice A2 cho.length c2)) := by rw [hfa, hfc]; exact ⟨_, _, _, rfl, hi2, ha, hc⟩
        repeat' (first | apply v_seq | apply v_region | apply v_nil | apply v_skip | apply v_block | apply v_blk | (apply v_take; (case hg => rfl)) | (apply v_pure; (case hop => first | (apply p_move <;> rfl) | (apply p_nes <;> rfl) | (apply p_eq <;> rfl) | (apply p_lt <;> rfl) | (apply p_le <;> rfl) | (apply p_assign <;> rfl) | (apply p_pickF <;> rfl) | (apply p_not <;> rfl) | (apply p_lenSlice <;> rfl) | (apply p_fieldAddrB <;> rfl) | (apply p_add; (case hx => rfl); (case hy => rfl); (case h => omega)) | (apply p_indexAddrS; (case hx => rfl); (case hi => rfl); (case h0 => omega); (case h => omega); (case hA => first | (apply_assumption; omega))) | (apply p_build; (case hz => rfl); (case hv => (simp only [List.map_cons, List.map_nil]; repeat (first | with_reducible exact evs_nil | (apply evs_cons; (case h1 => rfl))))); (case hb => (apply bldL; repeat (first | exact bld_nil | (apply bld_cons; (case hpf => rfl); (case hc => rfl); (case hs => rfl); (case hl => rfl); (case ho => (first | ((repeat (first | with_reducible exact ov_nil | apply ov_cons | fail)); done) | fail))))))) | fail); (case hd => rfl)) | (apply v_condF; (case hc => rfl)) | (apply v_cond; (case hc => rfl); all_goals (intro h; (try simp only [reduceCtorEq, dec_true, dec_false, decide_eq_true_eq, decide_eq_false_iff_not, Bool.not_eq_true', Bool.not_eq_false', Option.isNone_iff_eq_none, beq_true, beq_false, beq_iff_eq, beq_eq_false_iff_ne, ne_eq, decide_eq_decide, Bool.not_eq_true, Bool.not_eq_false, Decidable.not_not] at h); first | (exfalso; omega) | skip)) | (apply v_guardB; (case h1 => rfl); (case h2 => rfl); all_goals (intro h; (try simp only [reduceCtorEq, dec_true, dec_false, decide_eq_true_eq, decide_eq_false_iff_not, Bool.not_eq_true', Bool.not_eq_false', Option.isNone_iff_eq_none, beq_true, beq_false, beq_iff_eq, beq_eq_false_iff_ne, ne_eq, decide_eq_decide, Bool.not_eq_true, Bool.not_eq_false, Decidable.not_not] at h); first | (exfalso; omega) | skip)) | (apply v_read; (case hop => first | (apply r_loadN; rfl; exact CellsAt.frozen hcx; rfl)); (case hd => rfl)) | (apply v_callJ (hs := qc); (case ha => rfl); (case hd => rfl)) | (apply v_callJ (hs := qh); (case ha => rfl); (case hd => rfl)) | (apply v_callJ (hs := qf); (case ha => rfl); (case hd => rfl)) | (apply v_read; (case hop => first | (apply r_loadNo; (case hx => rfl); (case h => (repeat (first | exact List.Mem.head _ | fail))); (case hd => (repeat (first | with_reducible exact dt_nil | apply dt_here | fail))); (case hn => rfl)) | (apply r_load1; rfl; (apply Cell.own; (case h => (repeat (first | exact List.Mem.head _ | apply List.Mem.tail | fail))); rfl)) | fail); (case hd => rfl)) | (apply v_alloc; (case hz => rfl); (case hd => rfl); intro b) | (apply v_store; (case hp => rfl); (case hx => rfl); (case hc => rfl); (case hsz => rfl); (case h1 => rfl); (case hb => (repeat (first | exact List.Mem.head _ | fail))); (case hfit => first | exact Nat.le_of_ble_eq_true rfl | fail); (case hov => (first | ((repeat (first | with_reducible exact ov_nil | apply ov_cons | fail)); done) | fail)); (case hu => repeat (first | exact Upd.here _ _ | fail))) | fail)
        refine v_drop (ν := [(hb, _), (ob, _)]) (by repeat (first | exact List.Sublist.refl _ | apply List.Sublist.cons | fail)) ?_
        refine v_again rfl ⟨hle, k + 1, _, by omega, rfl, rfl, hfin, ht'⟩ (by simp [headI]; omega)
      · have ec : choS H.base cho x = withL cho (entOf x) := by rw [choS, if_pos ⟨hv, k3, hlb⟩, insN, if_neg (show ¬ ∃ y ∈ cho, y.index = (entOf x).index from fun h => hb3 (hbi.2 h)), hwc]
        rw [ec] at hfc
        rw [if_neg hb3] at qf
        repeat' (first | apply v_seq | apply v_region | apply v_nil | apply v_skip | apply v_block | (apply v_take; (case hg => rfl)) | (apply v_pure; (case hop => first | (apply p_move <;> rfl) | (apply p_nes <;> rfl) | (apply p_eq <;> rfl) | (apply p_lt <;> rfl) | (apply p_le <;> rfl) | (apply p_pickF <;> rfl) | (apply p_not <;> rfl) | (apply p_lenSlice <;> rfl) | (apply p_fieldAddrB <;> rfl) | (apply p_indexAddrS; (case hx => rfl); (case hi => rfl); (case h0 => omega); (case h => omega); (case hA => first | (apply_assumption; omega))) | (apply p_build; (case hz => rfl); (case hv => (simp only [List.map_cons, List.map_nil]; repeat (first | with_reducible exact evs_nil | (apply evs_cons; (case h1 => rfl))))); (case hb => (apply bldL; repeat (first | exact bld_nil | (apply bld_cons; (case hpf => rfl); (case hc => rfl); (case hs => rfl); (case hl => rfl); (case ho => (first | ((repeat (first | with_reducible exact ov_nil | apply ov_cons | fail)); done) | fail))))))) | fail); (case hd => rfl)) | (apply v_condF; (case hc => rfl)) | (apply v_cond; (case hc => rfl); all_goals (intro h; (try simp only [reduceCtorEq, dec_true, dec_false, decide_eq_true_eq, decide_eq_false_iff_not, Bool.not_eq_true', Bool.not_eq_false', Option.isNone_iff_eq_none, beq_true, beq_false, beq_iff_eq, beq_eq_false_iff_ne, ne_eq, decide_eq_decide, Bool.not_eq_true, Bool.not_eq_false, Decidable.not_not] at h); first | (exfalso; omega) | skip)) | (apply v_guardB; (case h1 => rfl); (case h2 => rfl); all_goals (intro h; (try simp only [reduceCtorEq, dec_true, dec_false, decide_eq_true_eq, decide_eq_false_iff_not, Bool.not_eq_true', Bool.not_eq_false', Option.isNone_iff_eq_none, beq_true, beq_false, beq_iff_eq, beq_eq_false_iff_ne, ne_eq, decide_eq_decide, Bool.not_eq_true, Bool.not_eq_false, Decidable.not_not] at h); first | (exfalso; omega) | skip)) | (apply v_read; (case hop => first | (apply r_loadN; rfl; exact CellsAt.frozen hcx; rfl)); (case hd => rfl)) | (apply v_callJ (hs := qc); (case ha => rfl); (case hd => rfl)) | (apply v_callJ (hs := qh); (case ha => rfl); (case hd => rfl)) | (apply v_callJ (hs := qf); (case ha => rfl); (case hd => rfl)) | (apply v_read; (case hop => first | (apply r_loadNo; (case hx => rfl); (case h => (repeat (first | exact List.Mem.head _ | fail))); (case hd => (repeat (first | with_reducible exact dt_nil | apply dt_here | fail))); (case hn => rfl)) | (apply r_load1; rfl; (apply Cell.own; (case h => (repeat (first | exact List.Mem.head _ | apply List.Mem.tail | fail))); rfl)) | fail); (case hd => rfl)) | (apply v_alloc; (case hz => rfl); (case hd => rfl); intro b) | (apply v_store; (case hp => rfl); (case hx => rfl); (case hc => rfl); (case hsz => rfl); (case h1 => rfl); (case hb => (repeat (first | exact List.Mem.head _ | fail))); (case hfit => first | exact Nat.le_of_ble_eq_true rfl | fail); (case hov => (first | ((repeat (first | with_reducible exact ov_nil | apply ov_cons | fail)); done) | fail)); (case hu => repeat (first | exact Upd.here _ _ | fail))) | fail)
        refine v_call (μ1 := []) (μ2 := _) rfl qwc (List.Perm.refl _) rfl ?_
        rintro r G4 ν - ⟨rfl, hg⟩
        obtain ⟨A5, c5, rfl, -, -⟩ := hg.shape
        repeat' (first | apply v_region | apply v_nil | apply v_blk | (apply v_pure; (case hop => first | (apply p_move <;> rfl) | (apply p_assign <;> rfl) | (apply p_fieldAddrB <;> rfl) | (apply p_add; (case hx => rfl); (case hy => rfl); (case h => omega)) | fail); (case hd => rfl)) | (apply v_store; (case hp => rfl); (case hx => rfl); (case hc => rfl); (case hsz => rfl); (case h1 => rfl); (case hb => (repeat (first | exact List.Mem.head _ | apply List.Mem.tail | apply List.mem_append_right))); (case hfit => first | exact Nat.le_of_ble_eq_true rfl | fail); (case hov => (first | ((repeat (first | with_reducible exact ov_nil | apply ov_cons | fail)); done) | fail)); (case hu => repeat (first | exact Upd.here _ _ | apply Upd.there | apply Upd.app))) | fail)
        refine v_frz ν (by repeat (first | exact PickA.here _ | fail)) ?_
        intro G5 hle5 hG5
        refine v_drop (ν := [(hb, _), (ob, _)]) (by repeat (first | exact List.Sublist.refl _ | apply List.Sublist.cons | fail)) ?_
        refine v_again rfl ⟨GH.le_trans hle hle5, k + 1, _, by omega, rfl, rfl, ?_, ht'⟩ (by simp [headI]; omega)
        rw [hfc, hfa]
        rw [hfc] at ht'
        exact ⟨_, _, _, rfl, hi2.mono hle5, esle ha hle5, es_of_grow hg hG5 ht'.oc⟩
  · obtain rfl : k = l.length := by omega
    rw [List.take_length] at ha hc ⊢
    repeat' (first | apply v_seq | apply v_region | apply v_nil | (apply v_exit; (case hp => rfl)) | (apply v_pure; (case hop => first | (apply p_move <;> rfl) | (apply p_lt <;> rfl) | (apply p_lenSlice <;> rfl) | fail); (case hd => rfl)) | (apply v_cond; (case hc => rfl); all_goals (intro h; (try simp only [reduceCtorEq, dec_true, dec_false, decide_eq_true_eq, decide_eq_false_iff_not, Bool.not_eq_true', Bool.not_eq_false', Option.isNone_iff_eq_none, beq_true, beq_false, beq_iff_eq, beq_eq_false_iff_ne, ne_eq, decide_eq_decide, Bool.not_eq_true, Bool.not_eq_false, Decidable.not_not] at h); first | (exfalso; omega) | skip)) | (apply v_read; (case hop => first | (apply r_loadNo; (case hx => rfl); (case h => (repeat (first | exact List.Mem.head _ | fail))); (case hd => (repeat (first | with_reducible exact dt_nil | apply dt_here | fail))); (case hn => rfl)) | fail); (case hd => rfl)) | (apply v_store; (case hp => rfl); (case hx => rfl); (case hc => rfl); (case hsz => rfl); (case h1 => rfl); (case hb => (repeat (first | exact List.Mem.head _ | apply List.Mem.tail | fail))); (case hfit => first | exact Nat.le_of_ble_eq_true rfl | fail); (case hov => (first | ((repeat (first | with_reducible exact ov_nil | apply ov_cons | fail)); done) | fail)); (case hu => repeat (first | exact Upd.here _ _ | apply Upd.there | fail))) | fail)
    refine v_retM [] (outsM_cell (vs := hdL H.pr H.pn H.base (.slice A0 H.image.length c0) (.slice A1 (l.foldl (accS H.base) []).length c1) (.slice A2 (l.foldl (choS H.base) []).length c2)) (e := 42) rfl rfl (by repeat (first | exact List.Mem.head _ | apply List.Mem.tail)) rfl) (by repeat (first | exact List.nil_sublist _ | fail)) ?_
    exact ⟨rfl, _, rfl, _, _, _, rfl, hi2, ha, hc⟩
end Go.Proofs.YtnoiahlpmgbhfaaDoor
/-
  hard (layer 19), the tenth part: too large ones; two that are the same; one that may be.
-/
set_option linter.unusedSimpArgs false
set_option linter.unusedVariables false
namespace Go.Proofs.YtnoiahlpmgbhfaaDoor
open Go.Vx Go.ChangeShapes Go.WideShapes Go.ChangeAt Go.RowKit
theorem rhLarge_s {G : GH} {l : List Rc} {lv : Value} (hs : Rs G lv l) : Con Tryd.prog 17 #[lv] G [] (LargeB l.length G) := by
  obtain ⟨A, c, ivf, rfl, hlc, hcm, hsome, hcp, him, hok⟩ := rsOpen hs
  simp only [maxLen] at hcm
  refine v_enter Tryd.func17 rfl Tryd.ntmps17 rfl (fun B => ?_)
  repeat' (first | apply v_seq | apply v_region | apply v_nil | apply v_block | (apply v_pure; (case hop => first | (apply p_assign <;> rfl) | fail); (case hd => rfl)) | fail)
  refine v_loop [3, 0] (fun us G' μ' => G' = G ∧ μ' = [] ∧ ∃ k, k ≤ l.length ∧ us = [Value.int .i64 (k : Nat), .slice A l.length c]) (fun us => l.length - (headI us).toNat) rfl ⟨rfl, rfl, 0, by omega, rfl⟩ ?_
  rintro us G' μ' ⟨rfl, rfl, k, hk, rfl⟩
  have e1 : ((k : Nat) : Int).toNat = k := by omega
  by_cases hlt : k < l.length
  · have hcx := hcp k hlt
    have hix := him k hlt
    have hcok := hok _ (List.getElem_mem hlt)
    generalize hxe : l[k] = x at *
    generalize ivf k = iv at *
    obtain ⟨Ai, ci, rfl, hic, him2, -⟩ := id hix.openInt
    simp only [maxLen] at him2
    have hx : RcV G' x (.agg (recL x.kind x.round x.node x.index x.cmd (.slice Ai x.image.length ci)).toArray) := ⟨_, rfl, hix⟩
    have ql := recLarge_s hx hcok.1
    have hci : GH.cell? G' (((adr A).add (k * 12)).add 11) = some (.slice Ai x.image.length ci) := hcx.cell (j := 11) rfl
    generalize decide x.large = lb at *
    repeat' (first | apply v_seq | apply v_region | apply v_nil | apply v_skip | apply v_block | apply v_blk | (apply v_exit; (case hp => rfl)) | (apply v_take; (case hg => rfl)) | (apply v_pass; (case hg => rfl); (case hn => rfl); (case hd => rfl)) | (apply v_pure; (case hop => first | (apply p_move <;> rfl) | (apply p_lt <;> rfl) | (apply p_gt <;> rfl) | (apply p_assign <;> rfl) | (apply p_pickT <;> rfl) | (apply p_pickF <;> rfl) | (apply p_lenSlice <;> rfl) | (apply p_fieldAddr <;> rfl) | (apply p_add; (case hx => rfl); (case hy => rfl); (case h => omega)) | (apply p_indexAddrS; (case hx => rfl); (case hi => rfl); (case h0 => omega); (case h => omega); (case hA => first | (apply_assumption; omega))) | fail); (case hd => rfl)) | (apply v_condT; (case hc => rfl)) | (apply v_cond; (case hc => rfl); all_goals (intro h; (try simp only [reduceCtorEq, dec_true, dec_false, decide_eq_true_eq, decide_eq_false_iff_not, Bool.not_eq_true', Bool.not_eq_false', Option.isNone_iff_eq_none, beq_true, beq_false, beq_iff_eq, beq_eq_false_iff_ne, ne_eq, decide_eq_decide, Bool.not_eq_true, Bool.not_eq_false, Decidable.not_not] at h); first | skip)) | (apply v_guardB; (case h1 => rfl); (case h2 => rfl); all_goals (intro h; (try simp only [reduceCtorEq, dec_true, dec_false, decide_eq_true_eq, decide_eq_false_iff_not, Bool.not_eq_true', Bool.not_eq_false', Option.isNone_iff_eq_none, beq_true, beq_false, beq_iff_eq, beq_eq_false_iff_ne, ne_eq, decide_eq_decide, Bool.not_eq_true, Bool.not_eq_false, Decidable.not_not] at h); first | (exfalso; omega) | skip)) | (apply v_read; (case hop => first | (apply r_loadN; rfl; exact CellsAt.frozen hcx; rfl) | (apply r_load1; rfl; exact Cell.frozen hci)); (case hd => rfl)) | (apply v_callJ (hs := ql); (case ha => rfl); (case hd => rfl)) | fail)
    all_goals first
      | (refine v_ret [] (outsA1 rfl rfl) (by repeat (first | exact List.Sublist.refl _ | fail)) ?_
         refine ⟨rfl, rfl, _, rfl, fun h => ?_⟩
         first | (cases h; done) | (have := dec_false.1 h; omega))
      | (refine v_again rfl ⟨rfl, rfl, k + 1, by omega, rfl⟩ (by simp [headI]; omega))
  · repeat' (first | apply v_seq | apply v_region | apply v_nil | (apply v_exit; (case hp => rfl)) | (apply v_pass; (case hg => rfl); (case hn => rfl); (case hd => rfl)) | (apply v_pure; (case hop => first | (apply p_move <;> rfl) | (apply p_lt <;> rfl) | (apply p_gt <;> rfl) | (apply p_assign <;> rfl) | (apply p_pickF <;> rfl) | (apply p_lenSlice <;> rfl) | fail); (case hd => rfl)) | (apply v_condF; (case hc => rfl)) | (apply v_guardB; (case h1 => rfl); (case h2 => rfl); all_goals (intro h; (try simp only [reduceCtorEq, dec_true, dec_false, decide_eq_true_eq, decide_eq_false_iff_not, Bool.not_eq_true', Bool.not_eq_false', Option.isNone_iff_eq_none, beq_true, beq_false, beq_iff_eq, beq_eq_false_iff_ne, ne_eq, decide_eq_decide, Bool.not_eq_true, Bool.not_eq_false, Decidable.not_not] at h); first | (exfalso; omega) | skip)) | fail)
    all_goals
      (refine v_ret [] (outsA1 rfl rfl) (by repeat (first | exact List.Sublist.refl _ | fail)) ?_
       refine ⟨rfl, rfl, _, rfl, fun h => ?_⟩
       have := dec_false.1 h
       omega)
theorem hSame_s {G : GH} {H : Hd} {L L' : List Value} (h1 : HdV G H L) (h2 : HdV G H L') : Con Tryd.prog 20 #[.agg L.toArray, .agg L'.toArray] G [] (Just (.bool true) G) := by
  obtain ⟨iv, av, cv, rfl, hi, ha, hc⟩ := h1
  obtain ⟨iv', av', cv', rfl, hi', ha', hc'⟩ := h2
  have q1 := bSame_s hi hi'
  have q2 := entSame_s ha ha'
  have q3 := entSame_s hc hc'
  rw [decide_eq_true rfl] at q1 q2 q3
  obtain ⟨A0, c0, rfl, -⟩ := hi.openInt
  obtain ⟨A1, c1, rfl, -⟩ := ha.open
  obtain ⟨A2, c2, rfl, -⟩ := hc.open
  obtain ⟨B0, d0, rfl, -⟩ := hi'.openInt
  obtain ⟨B1, d1, rfl, -⟩ := ha'.open
  obtain ⟨B2, d2, rfl, -⟩ := hc'.open
  apply Con.just
  refine v_enter Tryd.func20 rfl Tryd.ntmps20 rfl (fun B => ?_)
  repeat' (first | (apply v_pure; (case hop => (apply eqBal; (case hx => rfl); (case hy => rfl))); (case hd => rfl)) | apply v_seq | apply v_region | apply v_nil | (apply v_take; (case hg => rfl)) | (apply v_pass; (case hg => rfl); (case hn => rfl); (case hd => rfl)) | (apply v_pure; (case hop => first | (apply p_move <;> rfl) | (apply p_eqs <;> rfl) | (apply p_assign <;> rfl) | (apply p_pickT <;> rfl) | (apply p_pickF <;> rfl) | (apply p_fieldAddrB <;> rfl) | fail); (case hd => rfl)) | (apply v_guardB; (case h1 => rfl); (case h2 => rfl); all_goals (intro h; (try simp only [reduceCtorEq, dec_true, dec_false, decide_eq_true_eq, decide_eq_false_iff_not, Bool.not_eq_true', Bool.not_eq_false', Option.isNone_iff_eq_none, beq_true, beq_false, beq_iff_eq, beq_eq_false_iff_ne, ne_eq, decide_eq_decide, Bool.not_eq_true, Bool.not_eq_false, Decidable.not_not] at h); first | skip)) | (apply v_callJ (hs := q1); (case ha => rfl); (case hd => rfl)) | (apply v_callJ (hs := q2); (case ha => rfl); (case hd => rfl)) | (apply v_callJ (hs := q3); (case ha => rfl); (case hd => rfl)) | (apply v_read; (case hop => first | (apply r_loadNo; (case hx => rfl); (case h => (repeat (first | exact List.Mem.head _ | apply List.Mem.tail | fail))); (case hd => (repeat (first | with_reducible exact dt_nil | apply dt_here | fail))); (case hn => rfl)) | (apply r_load1; rfl; (apply Cell.own; (case h => (repeat (first | exact List.Mem.head _ | apply List.Mem.tail | fail))); rfl)) | fail); (case hd => rfl)) | (apply v_box; (case hx => rfl); (case hz => rfl); (case hd => rfl); intro b) | fail)
  · refine v_ret [] (outsA1 rfl rfl) (by repeat (first | exact List.nil_sublist _ | fail)) ?_
    exact ⟨rfl, rfl⟩
  · exact absurd ⟨trivial, trivial⟩ ‹¬ (True ∧ True)›
end Go.Proofs.YtnoiahlpmgbhfaaDoor
/-
  hard (layer 19), the twelfth part: what was there stays; two logs that are, or are not, the same.
-/
set_option linter.unusedSimpArgs false
set_option linter.unusedVariables false
namespace Go.Proofs.YtnoiahlpmgbhfaaDoor
open Go.Vx Go.ChangeShapes Go.WideShapes Go.ChangeAt Go.RowKit
theorem ins_mem {x z : Ent} : ∀ {l : List Ent}, z ∈ l → z.index ≠ x.index → z ∈ ins x l
  | [], h, _ => by simp at h
  | y :: l, h, hn => by
    rw [ins_cons]
    rw [List.mem_cons] at h
    split
    · obtain rfl | h := h
      · exact List.mem_cons_self
      · exact List.mem_cons_of_mem _ (ins_mem h hn)
    · split
      · obtain rfl | h := h
        · exact absurd ‹z.index = x.index› hn
        · exact List.mem_cons_of_mem _ h
      · obtain rfl | h := h
        · exact List.mem_cons_of_mem _ List.mem_cons_self
        · exact List.mem_cons_of_mem _ (List.mem_cons_of_mem _ h)
theorem rise_inj {l : List Ent} (hr : RiseL l) {x y : Ent} (hx : x ∈ l) (hy : y ∈ l) (h : x.index = y.index) : x = y := by
  obtain ⟨i, hi, rfl⟩ := List.getElem_of_mem hx
  obtain ⟨j, hj, rfl⟩ := List.getElem_of_mem hy
  by_cases hij : i = j
  · subst hij; rfl
  · by_cases hl : i < j
    · have := hr i j hj hl; omega
    · have := hr j i hi (by omega); omega
theorem prom_mono (h : Hd) (x : Rc) : ¬ lessP (h.prom x).pr (h.prom x).pn h.pr h.pn := by
  unfold Hd.prom
  split
  · rename_i hl
    unfold lessP at *
    simp only
    omega
  · unfold lessP
    omega
/-- What a record more changes. -/
theorem step_mono {n : Nat} {h : Hd} (g : Good n h) (x : Rc) : ¬ lessP (stepH h x).pr (stepH h x).pn h.pr h.pn ∧ h.base ≤ (stepH h x).base ∧ ∀ e ∈ h.cho, ((stepH h x).base < e.index → e ∈ (stepH h x).cho) ∧ ∀ e' ∈ (stepH h x).cho, e'.index = e.index → e' = e := by
  have hself : ¬ lessP h.pr h.pn h.pr h.pn := by unfold lessP; omega
  have hkeep : ∀ e ∈ h.cho, (h.base < e.index → e ∈ h.cho) ∧ ∀ e' ∈ h.cho, e'.index = e.index → e' = e := fun e he => ⟨fun _ => he, fun e' he' hi => rise_inj g.rcho he' he hi⟩
  unfold stepH
  split
  · rename_i hv
    have hk := (rec0 (show recI x.kind x.round x.node x.index x.cmd x.image.length = 0 from hv)).1
    unfold chg
    obtain ⟨p1, p2, p3, p4⟩ := prom_base h x
    have pm := prom_mono h x
    split
    · rw [p1, p4]
      exact ⟨pm, Int.le_refl _, hkeep⟩
    split
    · split
      · simp only
        rw [p1, p4]
        exact ⟨pm, Int.le_refl _, hkeep⟩
      · rw [p1, p4]
        exact ⟨pm, Int.le_refl _, hkeep⟩
    split
    · split
      · rename_i hcond
        refine ⟨hself, Int.le_refl _, fun e he => ?_⟩
        simp only
        rw [withL_ins g.rcho]
        have hne : e.index ≠ x.index := fun hh => by
          have := (hitB_iff g.rcho x.index).2 ⟨e, he, hh⟩
          rw [hcond.1] at this
          cases this
        refine ⟨fun _ => ins_mem he hne, fun e' he' hi => ?_⟩
        obtain rfl | he' := mem_ins he'
        · exact absurd hi.symm hne
        · exact rise_inj g.rcho he' he hi
      · exact ⟨hself, Int.le_refl _, hkeep⟩
    split
    · exact ⟨hself, Int.le_refl _, hkeep⟩
    · rename_i hlt
      refine ⟨hself, by simp only; omega, fun e he => ?_⟩
      simp only
      rw [drop_filter g.rcho]
      refine ⟨fun hi => List.mem_filter.2 ⟨he, by simpa using hi⟩, fun e' he' hi => rise_inj g.rcho (List.mem_filter.1 he').1 he hi⟩
  · exact ⟨hself, Int.le_refl _, hkeep⟩
theorem step_at {n : Nat} {h : Hd} (g : Good n h) (x : Rc) (hr : RiseL (stepH h x).cho) {e : Ent} (he : e ∈ h.cho) : ((stepH h x).base < e.index → hitB (stepH h x).cho e.index = true) ∧ ∀ (hh : hitB (stepH h x).cho e.index = true), (stepH h x).cho[placeN (stepH h x).cho e.index]'(hitB_lt hh) = e := by
  obtain ⟨h1, h2⟩ := (step_mono g x).2.2 e he
  exact ⟨fun hb => (hitB_iff hr _).2 ⟨e, h1 hb, rfl⟩, fun hh => h2 _ (List.getElem_mem _) (hitB_index hh)⟩
/-! ### Two that are the same -/
theorem entEqual_s {G : GH} {a b : List Ent} {av bv : Value} (ha : Es G av a) (hb : Es G bv b) : Con Tryd.prog 69 #[av, bv] G [] (Just (.bool (decide (a = b))) G) := by
  obtain ⟨A, c, rfl, hlc, hcm, hsome, hcp, hcb, hcc, hok⟩ := esOpen ha
  obtain ⟨A', c', rfl, hlc', hcm', hsome', hcp', hcb', hcc', hok'⟩ := esOpen hb
  clear hcb hcc hok hcb' hcc' hok'
  simp only [maxLen] at hcm hcm'
  apply Con.just
  refine v_enter Tryd.func69 rfl Tryd.ntmps69 rfl (fun B => ?_)
  repeat' (first | apply v_seq | apply v_region | apply v_nil | apply v_skip | apply v_block | (apply v_pure; (case hop => first | (apply p_move <;> rfl) | (apply p_ne <;> rfl) | (apply p_assign <;> rfl) | (apply p_lenSlice <;> rfl) | fail); (case hd => rfl)) | (apply v_cond; (case hc => rfl); all_goals (intro h; (try simp only [reduceCtorEq, dec_true, dec_false, decide_eq_true_eq, decide_eq_false_iff_not, Bool.not_eq_true', Bool.not_eq_false', Option.isNone_iff_eq_none, beq_true, beq_false, beq_iff_eq, beq_eq_false_iff_ne, ne_eq, decide_eq_decide, Bool.not_eq_true, Bool.not_eq_false, Decidable.not_not] at h); first | skip)) | fail)
  · refine v_ret [] (outsA1 rfl rfl) (by repeat (first | exact List.Sublist.refl _ | fail)) ?_
    refine ⟨?_, rfl⟩
    rw [decide_eq_false]
    intro e
    subst e
    omega
  have hab : a.length = b.length := by omega
  refine v_loop [13, 12, 0, 1] (fun us G' μ' => G' = G ∧ μ' = [] ∧ ∃ k, k ≤ a.length ∧ us = [Value.int .i64 (k : Nat), .int .i64 (a.length : Nat), .slice A a.length c, .slice A' b.length c'] ∧ ∀ i (h : i < a.length) (h' : i < b.length), i < k → a[i] = b[i]) (fun us => a.length - (headI us).toNat) rfl ⟨rfl, rfl, 0, by omega, rfl, by omega⟩ ?_
  rintro us G' μ' ⟨rfl, rfl, k, hk, rfl, hno⟩
  repeat' (first | apply v_seq | apply v_region | apply v_nil | apply v_skip | apply v_block | (apply v_exit; (case hp => rfl)) | (apply v_pure; (case hop => first | (apply p_move <;> rfl) | (apply p_lt <;> rfl) | (apply p_assign <;> rfl) | fail); (case hd => rfl)) | (apply v_cond; (case hc => rfl); all_goals (intro h; (try simp only [reduceCtorEq, dec_true, dec_false, decide_eq_true_eq, decide_eq_false_iff_not, Bool.not_eq_true', Bool.not_eq_false', Option.isNone_iff_eq_none, beq_true, beq_false, beq_iff_eq, beq_eq_false_iff_ne, ne_eq, decide_eq_decide, Bool.not_eq_true, Bool.not_eq_false, Decidable.not_not] at h); first | skip)) | fail)
  · have hlt : k < a.length := by omega
    refine d_start [] (by kernel_rfl) (by kernel_rfl) (by intro e he; first | exact he | fail) ?_
    all_goals (first | (apply d_take 0; (case hi => rfl); (case hop => first | (apply PureOp.read; apply p_move <;> rfl)); (case hf => kernel_rfl); (case hr => kernel_rfl); (case hd => rfl)) | fail)
    all_goals (first | (apply d_take 1; (case hi => rfl); (case hop => first | (apply PureOp.read; apply p_move <;> rfl)); (case hf => kernel_rfl); (case hr => kernel_rfl); (case hd => rfl)) | fail)
    all_goals (first | (apply d_take 2; (case hi => rfl); (case hop => first | (apply PureOp.read; apply p_indexAddrS; (case hx => rfl); (case hi => rfl); (case h0 => omega); (case h => omega); (case hA => first | (apply_assumption; omega)))); (case hf => kernel_rfl); (case hr => kernel_rfl); (case hd => rfl)) | fail)
    all_goals (first | (apply d_take 3; (case hi => rfl); (case hop => first | ((apply r_loadN; rfl; exact CellsAt.frozen (hcp _ (by omega)); rfl)) | fail); (case hf => kernel_rfl); (case hr => kernel_rfl); (case hd => rfl)) | fail)
    all_goals (first | (apply d_take 4; (case hi => rfl); (case hop => first | (apply PureOp.read; apply p_move <;> rfl)); (case hf => kernel_rfl); (case hr => kernel_rfl); (case hd => rfl)) | fail)
    all_goals (first | (apply d_take 5; (case hi => rfl); (case hop => first | (apply PureOp.read; apply p_move <;> rfl)); (case hf => kernel_rfl); (case hr => kernel_rfl); (case hd => rfl)) | fail)
    all_goals (first | (apply d_take 6; (case hi => rfl); (case hop => first | (apply PureOp.read; apply p_indexAddrS; (case hx => rfl); (case hi => rfl); (case h0 => omega); (case h => omega); (case hA => first | (apply_assumption; omega)))); (case hf => kernel_rfl); (case hr => kernel_rfl); (case hd => rfl)) | fail)
    all_goals (first | (apply d_take 7; (case hi => rfl); (case hop => first | ((apply r_loadN; rfl; exact CellsAt.frozen (hcp' _ (by omega)); rfl)) | fail); (case hf => kernel_rfl); (case hr => kernel_rfl); (case hd => rfl)) | fail)
    all_goals (first | (apply d_take 8; (case hi => rfl); (case hop => first | ((apply PureOp.read; apply neEnt (x := a[k]'(by omega)) (y := b[k]'(by omega)); (case hx => rfl); (case hy => rfl))) | fail); (case hf => kernel_rfl); (case hr => kernel_rfl); (case hd => rfl)) | fail)
    all_goals (apply d_done; (case hr => kernel_rfl))
    repeat' (first | apply v_seq | apply v_region | apply v_nil | apply v_skip | apply v_blk | (apply v_pure; (case hop => first | (apply p_move <;> rfl) | (apply p_assign <;> rfl) | (apply p_add; (case hx => rfl); (case hy => rfl); (case h => omega)) | fail); (case hd => rfl)) | (apply v_cond; (case hc => rfl); all_goals (intro h; (try simp only [reduceCtorEq, dec_true, dec_false, decide_eq_true_eq, decide_eq_false_iff_not, Bool.not_eq_true', Bool.not_eq_false', Option.isNone_iff_eq_none, beq_true, beq_false, beq_iff_eq, beq_eq_false_iff_ne, ne_eq, decide_eq_decide, Bool.not_eq_true, Bool.not_eq_false, Decidable.not_not] at h); first | skip)) | fail)
    · refine v_ret [] (outsA1 rfl rfl) (by repeat (first | exact List.Sublist.refl _ | fail)) ?_
      refine ⟨?_, rfl⟩
      rw [decide_eq_false]
      intro e
      subst e
      contradiction
    · refine v_again rfl ⟨rfl, rfl, k + 1, by omega, rfl, fun i h h' hi => ?_⟩ (by simp [headI]; omega)
      by_cases hik : i = k
      · subst hik; assumption
      · exact hno i h h' (by omega)
  · refine v_ret [] (outsA1 rfl rfl) (by repeat (first | exact List.Sublist.refl _ | fail)) ?_
    refine ⟨?_, rfl⟩
    rw [decide_eq_true]
    exact List.ext_getElem hab fun i h h' => hno i h h' (by omega)
noncomputable instance : DecidableEq Hd := fun a b => Classical.propDecidable (a = b)
theorem hd_eq (a b : Hd) : a = b ↔ (a.pr = b.pr ∧ a.pn = b.pn) ∧ a.base = b.base ∧ a.image = b.image ∧ a.acc = b.acc ∧ a.cho = b.cho := by
  cases a; cases b
  simp only [Hd.mk.injEq]
  constructor
  · rintro ⟨h1, h2, h3, h4, h5, h6⟩; exact ⟨⟨h1, h2⟩, h3, h4, h5, h6⟩
  · rintro ⟨⟨h1, h2⟩, h3, h4, h5, h6⟩; exact ⟨h1, h2, h3, h4, h5, h6⟩
theorem hSameB_s {G : GH} {H H' : Hd} {L L' : List Value} (h1 : HdV G H L) (h2 : HdV G H' L') : Con Tryd.prog 20 #[.agg L.toArray, .agg L'.toArray] G [] (Just (.bool (decide (H = H'))) G) := by
  obtain ⟨iv, av, cv, rfl, hi, ha, hc⟩ := h1
  obtain ⟨iv', av', cv', rfl, hi', ha', hc'⟩ := h2
  have q1 := bSame_s hi hi'
  have q2 := entSame_s ha ha'
  have q3 := entSame_s hc hc'
  have he := hd_eq H H'
  obtain ⟨A0, c0, rfl, -⟩ := hi.openInt
  obtain ⟨A1, c1, rfl, -⟩ := ha.open
  obtain ⟨A2, c2, rfl, -⟩ := hc.open
  obtain ⟨B0, d0, rfl, -⟩ := hi'.openInt
  obtain ⟨B1, d1, rfl, -⟩ := ha'.open
  obtain ⟨B2, d2, rfl, -⟩ := hc'.open
  generalize hb1 : decide (H.image = H'.image) = b1 at *
  generalize hb2 : decide (H.acc = H'.acc) = b2 at *
  generalize hb3 : decide (H.cho = H'.cho) = b3 at *
  apply Con.just
  refine v_enter Tryd.func20 rfl Tryd.ntmps20 rfl (fun B => ?_)
  repeat' (first | (apply v_pure; (case hop => (apply eqBal; (case hx => rfl); (case hy => rfl))); (case hd => rfl)) | apply v_seq | apply v_region | apply v_nil | (apply v_take; (case hg => rfl)) | (apply v_pass; (case hg => rfl); (case hn => rfl); (case hd => rfl)) | (apply v_pure; (case hop => first | (apply p_move <;> rfl) | (apply p_eq <;> rfl) | (apply p_assign <;> rfl) | (apply p_pickT <;> rfl) | (apply p_pickF <;> rfl) | (apply p_fieldAddrB <;> rfl) | fail); (case hd => rfl)) | (apply v_guardB; (case h1 => rfl); (case h2 => rfl); all_goals (intro h; (try simp only [reduceCtorEq, dec_true, dec_false, decide_eq_true_eq, decide_eq_false_iff_not, Bool.not_eq_true', Bool.not_eq_false', Option.isNone_iff_eq_none, beq_true, beq_false, beq_iff_eq, beq_eq_false_iff_ne, ne_eq, decide_eq_decide, Bool.not_eq_true, Bool.not_eq_false, Decidable.not_not] at h); first | skip)) | (apply v_callJ (hs := q1); (case ha => rfl); (case hd => rfl)) | (apply v_callJ (hs := q2); (case ha => rfl); (case hd => rfl)) | (apply v_callJ (hs := q3); (case ha => rfl); (case hd => rfl)) | (apply v_read; (case hop => first | (apply r_loadNo; (case hx => rfl); (case h => (repeat (first | exact List.Mem.head _ | apply List.Mem.tail | fail))); (case hd => (repeat (first | with_reducible exact dt_nil | apply dt_here | fail))); (case hn => rfl)) | (apply r_load1; rfl; (apply Cell.own; (case h => (repeat (first | exact List.Mem.head _ | apply List.Mem.tail | fail))); rfl)) | fail); (case hd => rfl)) | (apply v_box; (case hx => rfl); (case hz => rfl); (case hd => rfl); intro b) | fail)
  all_goals
    (refine v_ret [] (outsA1 rfl rfl) (by repeat (first | exact List.nil_sublist _ | fail)) ?_
     refine ⟨?_, rfl⟩
     cases b3
     all_goals first
       | (cases h; done)
       | (rw [decide_eq_true]; rw [he]; exact ⟨by assumption, by assumption, of_decide_eq_true (hb1.trans (by assumption)), of_decide_eq_true (hb2.trans (by assumption)), of_decide_eq_true hb3⟩)
       | (rw [decide_eq_false]; rw [he]; rintro ⟨g1, g2, g3, g4, g5⟩; first | contradiction | (rw [decide_eq_true g3] at hb1; subst hb1; contradiction) | (rw [decide_eq_true g4] at hb2; subst hb2; contradiction) | (rw [decide_eq_true g5] at hb3; cases hb3; done))
       | skip)
theorem hardSame_s {G : GH} {H H' : Hd} {L L' : List Value} (h1 : HdV G H L) (h2 : HdV G H' L') : Con Tryd.prog 27 #[.agg L.toArray, .agg L'.toArray] G [] (Just (.bool (decide (H = H'))) G) := by
  obtain ⟨iv, av, cv, rfl, hi, ha, hc⟩ := h1
  obtain ⟨iv', av', cv', rfl, hi', ha', hc'⟩ := h2
  have q1 := bEqual_s hi hi'
  have q2 := entEqual_s ha ha'
  have q3 := entEqual_s hc hc'
  have he := hd_eq H H'
  obtain ⟨A0, c0, rfl, -⟩ := hi.openInt
  obtain ⟨A1, c1, rfl, -⟩ := ha.open
  obtain ⟨A2, c2, rfl, -⟩ := hc.open
  obtain ⟨B0, d0, rfl, -⟩ := hi'.openInt
  obtain ⟨B1, d1, rfl, -⟩ := ha'.open
  obtain ⟨B2, d2, rfl, -⟩ := hc'.open
  generalize hb1 : decide (H.image = H'.image) = b1 at *
  generalize hb2 : decide (H.acc = H'.acc) = b2 at *
  generalize hb3 : decide (H.cho = H'.cho) = b3 at *
  apply Con.just
  refine v_enter Tryd.func27 rfl Tryd.ntmps27 rfl (fun B => ?_)
  repeat' (first | (apply v_pure; (case hop => (apply eqBal; (case hx => rfl); (case hy => rfl))); (case hd => rfl)) | apply v_seq | apply v_region | apply v_nil | (apply v_take; (case hg => rfl)) | (apply v_pass; (case hg => rfl); (case hn => rfl); (case hd => rfl)) | (apply v_pure; (case hop => first | (apply p_move <;> rfl) | (apply p_eq <;> rfl) | (apply p_assign <;> rfl) | (apply p_pickT <;> rfl) | (apply p_pickF <;> rfl) | (apply p_fieldAddrB <;> rfl) | fail); (case hd => rfl)) | (apply v_guardB; (case h1 => rfl); (case h2 => rfl); all_goals (intro h; (try simp only [reduceCtorEq, dec_true, dec_false, decide_eq_true_eq, decide_eq_false_iff_not, Bool.not_eq_true', Bool.not_eq_false', Option.isNone_iff_eq_none, beq_true, beq_false, beq_iff_eq, beq_eq_false_iff_ne, ne_eq, decide_eq_decide, Bool.not_eq_true, Bool.not_eq_false, Decidable.not_not] at h); first | skip)) | (apply v_callJ (hs := q1); (case ha => rfl); (case hd => rfl)) | (apply v_callJ (hs := q2); (case ha => rfl); (case hd => rfl)) | (apply v_callJ (hs := q3); (case ha => rfl); (case hd => rfl)) | (apply v_read; (case hop => first | (apply r_loadNo; (case hx => rfl); (case h => (repeat (first | exact List.Mem.head _ | apply List.Mem.tail | fail))); (case hd => (repeat (first | with_reducible exact dt_nil | apply dt_here | fail))); (case hn => rfl)) | (apply r_load1; rfl; (apply Cell.own; (case h => (repeat (first | exact List.Mem.head _ | apply List.Mem.tail | fail))); rfl)) | fail); (case hd => rfl)) | (apply v_box; (case hx => rfl); (case hz => rfl); (case hd => rfl); intro b) | fail)
  all_goals
    (refine v_ret [] (outsA1 rfl rfl) (by repeat (first | exact List.nil_sublist _ | fail)) ?_
     refine ⟨?_, rfl⟩
     cases b3
     all_goals first
       | (cases h; done)
       | (rw [decide_eq_true]; rw [he]; exact ⟨by assumption, by assumption, of_decide_eq_true (hb1.trans (by assumption)), of_decide_eq_true (hb2.trans (by assumption)), of_decide_eq_true hb3⟩)
       | (rw [decide_eq_false]; rw [he]; rintro ⟨g1, g2, g3, g4, g5⟩; first | contradiction | (rw [decide_eq_true g3] at hb1; subst hb1; contradiction) | (rw [decide_eq_true g4] at hb2; subst hb2; contradiction) | (rw [decide_eq_true g5] at hb3; cases hb3; done))
       | skip)
end Go.Proofs.YtnoiahlpmgbhfaaDoor
/-
  hard (layer 19), the thirteenth part: Clone, Apply.
-/
set_option linter.unusedSimpArgs false
set_option linter.unusedVariables false
namespace Go.Proofs.YtnoiahlpmgbhfaaDoor
open Go.Vx Go.ChangeShapes Go.WideShapes Go.ChangeAt Go.RowKit
theorem hClone_s {G : GH} {H : Hd} {L : List Value} (hh : HdV G H L) (h1 : H.image.length ≤ 40000) (h2 : H.acc.length ≤ 200) (h3 : H.cho.length ≤ 200) (o2 : ∀ e ∈ H.acc, e.ok) (o3 : ∀ e ∈ H.cho, e.ok) :
    Con Tryd.prog 49 #[.agg L.toArray] G [] (fun r G' μ' => μ' = [] ∧ ∃ L', r = .agg L'.toArray ∧ HdV G' H L') := by
  obtain ⟨im, av, cv, rfl, hi, ha, hc⟩ := hh
  have q1 := bclone_s hi (by omega)
  have q2 := entClone_s ha (by omega)
  have q3 := entClone_s hc (by omega)
  obtain ⟨A0, c0, rfl, -, -, -, -, hwx⟩ := id hi.openInt
  obtain ⟨A1, c1, rfl, -⟩ := id ha.open
  obtain ⟨A2, c2, rfl, -⟩ := id hc.open
  refine v_enter Tryd.func49 rfl Tryd.ntmps49 rfl (fun B => ?_)
  repeat' (first | apply v_seq | apply v_region | apply v_nil | (apply v_pure; (case hop => first | (apply p_fieldAddrB <;> rfl) | fail); (case hd => rfl)) | (apply v_read; (case hop => first | (apply r_load1; rfl; (apply Cell.own; (case h => (repeat (first | exact List.Mem.head _ | apply List.Mem.tail | fail))); rfl)) | fail); (case hd => rfl)) | (apply v_alloc; (case hz => rfl); (case hd => rfl); intro b) | (apply v_box; (case hx => rfl); (case hz => rfl); (case hd => rfl); intro b) | fail)
  refine v_call (μ1 := []) (μ2 := _) rfl q1 (List.Perm.refl _) rfl ?_
  rintro r1 _ ν1 - ⟨rfl, hg1⟩
  obtain ⟨A4, c4, rfl, -, -⟩ := hg1.shape
  repeat' (first | apply v_seq | apply v_region | apply v_nil | (apply v_pure; (case hop => first | (apply p_fieldAddrB <;> rfl) | fail); (case hd => rfl)) | (apply v_read; (case hop => first | (apply r_load1; rfl; (apply Cell.own; (case h => (repeat (first | exact List.Mem.head _ | apply List.Mem.tail | apply List.mem_append_right))); rfl)) | fail); (case hd => rfl)) | (apply v_store; (case hp => rfl); (case hx => rfl); (case hc => rfl); (case hsz => rfl); (case h1 => rfl); (case hb => (repeat (first | exact List.Mem.head _ | apply List.Mem.tail | apply List.mem_append_right))); (case hfit => first | exact Nat.le_of_ble_eq_true rfl | fail); (case hov => (first | ((repeat (first | with_reducible exact ov_nil | apply ov_cons | fail)); done) | fail)); (case hu => repeat (first | exact Upd.here _ _ | apply Upd.there | apply Upd.app))) | fail)
  refine v_call (μ1 := []) (μ2 := _) rfl q2 (List.Perm.refl _) rfl ?_
  rintro r2 _ ν2 - ⟨rfl, hg2⟩
  obtain ⟨A5, c5, rfl, -, -⟩ := hg2.shape
  repeat' (first | apply v_seq | apply v_region | apply v_nil | (apply v_pure; (case hop => first | (apply p_fieldAddrB <;> rfl) | fail); (case hd => rfl)) | (apply v_read; (case hop => first | (apply r_load1; rfl; (apply Cell.own; (case h => (repeat (first | exact List.Mem.head _ | apply List.Mem.tail | apply List.mem_append_right))); rfl)) | fail); (case hd => rfl)) | (apply v_store; (case hp => rfl); (case hx => rfl); (case hc => rfl); (case hsz => rfl); (case h1 => rfl); (case hb => (repeat (first | exact List.Mem.head _ | apply List.Mem.tail | apply List.mem_append_right))); (case hfit => first | exact Nat.le_of_ble_eq_true rfl | fail); (case hov => (first | ((repeat (first | with_reducible exact ov_nil | apply ov_cons | fail)); done) | fail)); (case hu => repeat (first | exact Upd.here _ _ | apply Upd.there | apply Upd.app))) | fail)
  refine v_call (μ1 := []) (μ2 := _) rfl q3 (List.Perm.refl _) rfl ?_
  rintro r3 _ ν3 - ⟨rfl, hg3⟩
  obtain ⟨A6, c6, rfl, -, -⟩ := hg3.shape
  repeat' (first | apply v_seq | apply v_region | apply v_nil | (apply v_pure; (case hop => first | (apply p_fieldAddrB <;> rfl) | fail); (case hd => rfl)) | (apply v_read; (case hop => first | (apply r_loadNo; (case hx => rfl); (case h => (repeat (first | exact List.Mem.head _ | apply List.Mem.tail | apply List.mem_append_right))); (case hd => (repeat (first | with_reducible exact dt_nil | apply dt_here | fail))); (case hn => rfl)) | fail); (case hd => rfl)) | (apply v_store; (case hp => rfl); (case hx => rfl); (case hc => rfl); (case hsz => rfl); (case h1 => rfl); (case hb => (repeat (first | exact List.Mem.head _ | apply List.Mem.tail | apply List.mem_append_right))); (case hfit => first | exact Nat.le_of_ble_eq_true rfl | fail); (case hov => (first | ((repeat (first | with_reducible exact ov_nil | apply ov_cons | fail)); done) | fail)); (case hu => repeat (first | exact Upd.here _ _ | apply Upd.there | apply Upd.app))) | fail)
  refine v_frz ν3 (by repeat (first | exact PickA.here _ | fail)) ?_
  intro G2 hle2 hG2
  refine v_frz ν2 (by repeat (first | exact PickA.here _ | fail)) ?_
  intro G3 hle3 hG3
  refine v_frz ν1 (by repeat (first | exact PickA.here _ | fail)) ?_
  intro G4 hle4 hG4
  have k1 := hg1.ints hG4 hwx
  have k2 := esle (es_of_grow hg2 hG3 o2) hle4
  have k3 := esle (es_of_grow hg3 hG2 o3) (GH.le_trans hle3 hle4)
  refine v_retM [] (outsM_cell (vs := hdL H.pr H.pn H.base (.slice A4 H.image.length c4) (.slice A5 H.acc.length c5) (.slice A6 H.cho.length c6)) (e := 42) rfl rfl (by repeat (first | exact List.Mem.head _ | fail)) rfl) (by repeat (first | exact List.nil_sublist _ | fail)) ?_
  exact ⟨rfl, _, rfl, _, _, _, rfl, k1, k2, k3⟩
theorem hApply_s {G : GH} (hT : TabsG G) {H : Hd} {L : List Value} {x : Rc} {xv : Value} {n : Nat} (hh : HdV G H L) (g : Good n H) (hn : n ≤ 200) (hx : RcV G x xv) (hc : x.cmd.ok) :
    Con Tryd.prog 23 #[.agg L.toArray, xv] G [] (fun r G' μ' => μ' = [] ∧ ∃ L', r = .agg L'.toArray ∧ HdV G' (stepH H x) L') := by
  have q1 := hClone_s hh (by have := g.img; omega) (by have := g.nacc; omega) (by have := g.ncho; omega) (fun e he => (g.acc e he).2.1) (fun e he => (g.cho e he).2.1)
  obtain ⟨iv, rfl, hxv⟩ := hx
  obtain ⟨A3, c3, rfl, hl3, hm3, -⟩ := id hxv.openInt
  simp only [maxLen] at hm3
  obtain ⟨im, av, cv, rfl, hi, ha, hcv⟩ := id hh
  obtain ⟨A0, c0, rfl, -⟩ := id hi.openInt
  obtain ⟨A1, c1, rfl, -⟩ := id ha.open
  obtain ⟨A2, c2, rfl, -⟩ := id hcv.open
  have him : x.image.length ≤ 9223372036854775807 := by omega
  refine v_enter Tryd.func23 rfl Tryd.ntmps23 rfl (fun B => ?_)
  repeat' (first | (apply v_box (zs := recL x.kind x.round x.node x.index x.cmd (.slice A3 x.image.length c3)); (case hx => rfl); (case hz => rfl); (case hd => rfl); intro xb) | apply v_seq | apply v_region | apply v_nil | (apply v_read; (case hop => first | (apply r_loadNo; (case hx => rfl); (case h => (repeat (first | exact List.Mem.head _ | apply List.Mem.tail | fail))); (case hd => (repeat (first | with_reducible exact dt_nil | apply dt_here | fail))); (case hn => rfl)) | fail); (case hd => rfl)) | (apply v_alloc; (case hz => rfl); (case hd => rfl); intro b) | (apply v_box; (case hx => rfl); (case hz => rfl); (case hd => rfl); intro b) | fail)
  refine v_call (μ1 := []) (μ2 := _) rfl q1 (List.Perm.refl _) rfl ?_
  rintro r1 G1 _ hle1 ⟨rfl, L1, rfl, hh1⟩
  have hx1 : RcV G1 x (.agg (recL x.kind x.round x.node x.index x.cmd (.slice A3 x.image.length c3)).toArray) := ⟨_, rfl, hxv.mono hle1⟩
  have qc := recCheck_s (hT.le hle1) x.kind x.round x.node x.index x.cmd hc A3 x.image.length c3 him
  obtain ⟨im1, av1, cv1, rfl, hi1, ha1, hcv1⟩ := id hh1
  obtain ⟨B0, d0, rfl, -⟩ := id hi1.openInt
  obtain ⟨B1, d1, rfl, -⟩ := id ha1.open
  obtain ⟨B2, d2, rfl, -⟩ := id hcv1.open
  by_cases hv : chkI x = 0
  · have q2 := fun sb => change_s (G := G1) sb hh1 g hn hx1 hv hc
    have es : stepH H x = chg H x := by unfold stepH; rw [if_pos hv]
    rw [es]
    rw [show recI x.kind x.round x.node x.index x.cmd x.image.length = 0 from hv] at qc
    repeat' (first | apply v_seq | apply v_region | apply v_nil | (apply v_pure; (case hop => first | (apply p_move <;> rfl) | (apply p_eqs <;> rfl) | (apply p_assign <;> rfl) | (apply p_build; (case hz => rfl); (case hv => (simp only [List.map_cons, List.map_nil]; repeat (first | with_reducible exact evs_nil | (apply evs_cons; (case h1 => rfl))))); (case hb => (apply bldL; repeat (first | exact bld_nil | (apply bld_cons; (case hpf => rfl); (case hc => rfl); (case hs => rfl); (case hl => rfl); (case ho => (first | ((repeat (first | with_reducible exact ov_nil | apply ov_cons | fail)); done) | fail))))))) | fail); (case hd => rfl)) | (apply v_condT; (case hc => rfl)) | (apply v_callJ (hs := qc); (case ha => rfl); (case hd => rfl)) | (apply v_read; (case hop => first | (apply r_loadNo; (case hx => rfl); (case h => (repeat (first | exact List.Mem.head _ | apply List.Mem.tail | fail))); (case hd => (repeat (first | with_reducible exact dt_nil | apply dt_here | fail))); (case hn => rfl)) | fail); (case hd => rfl)) | (apply v_box; (case hx => rfl); (case hz => rfl); (case hd => rfl); intro b) | fail)
    refine v_call (μ1 := [(b, _)]) (μ2 := _) rfl (q2 b) (List.Perm.refl _) rfl ?_
    rintro _ G3 _ hle3 ⟨L3, rfl, hh3⟩
    obtain ⟨im3, av3, cv3, rfl, hi3, ha3, hcv3⟩ := id hh3
    obtain ⟨C0, u0, rfl, -⟩ := id hi3.openInt
    obtain ⟨C1, u1, rfl, -⟩ := id ha3.open
    obtain ⟨C2, u2, rfl, -⟩ := id hcv3.open
    repeat' (first | apply v_seq | apply v_region | apply v_nil | (apply v_pure; (case hop => first | (apply p_move <;> rfl) | (apply p_fieldAddrB <;> rfl) | (apply p_nilCheck <;> rfl) | fail); (case hd => rfl)) | (apply v_read; (case hop => first | (apply r_loadNo; (case hx => rfl); (case h => (repeat (first | exact List.Mem.head _ | fail))); (case hd => (repeat (first | with_reducible exact dt_nil | apply dt_here | fail))); (case hn => rfl)) | fail); (case hd => rfl)) | (apply v_store; (case hp => rfl); (case hx => rfl); (case hc => rfl); (case hsz => rfl); (case h1 => rfl); (case hb => (repeat (first | exact List.Mem.head _ | apply List.Mem.tail | fail))); (case hfit => first | exact Nat.le_of_ble_eq_true rfl | fail); (case hov => (first | ((repeat (first | with_reducible exact ov_nil | apply ov_cons | fail)); done) | fail)); (case hu => repeat (first | exact Upd.here _ _ | apply Upd.there | fail))) | fail)
    refine v_retM [] (outsM_cell (vs := hdL (chg H x).pr (chg H x).pn (chg H x).base (.slice C0 (chg H x).image.length u0) (.slice C1 (chg H x).acc.length u1) (.slice C2 (chg H x).cho.length u2)) (e := 42) rfl rfl (by repeat (first | exact List.Mem.head _ | apply List.Mem.tail)) rfl) (by repeat (first | exact List.nil_sublist _ | fail)) ?_
    exact ⟨rfl, _, rfl, hh3⟩
  · have es : stepH H x = H := by unfold stepH; rw [if_neg hv]
    rw [es]
    have hv' : ¬ recI x.kind x.round x.node x.index x.cmd x.image.length = 0 := hv
    generalize recI x.kind x.round x.node x.index x.cmd x.image.length = I at *
    repeat' (first | apply v_seq | apply v_region | apply v_nil | apply v_skip | (apply v_pure; (case hop => first | (apply p_move <;> rfl) | (apply p_eq <;> rfl) | (apply p_assign <;> rfl) | (apply p_fieldAddrB <;> rfl) | (apply p_nilCheck <;> rfl) | (apply p_build; (case hz => rfl); (case hv => (simp only [List.map_cons, List.map_nil]; repeat (first | with_reducible exact evs_nil | (apply evs_cons; (case h1 => rfl))))); (case hb => (apply bldL; repeat (first | exact bld_nil | (apply bld_cons; (case hpf => rfl); (case hc => rfl); (case hs => rfl); (case hl => rfl); (case ho => (first | ((repeat (first | with_reducible exact ov_nil | apply ov_cons | fail)); done) | fail))))))) | fail); (case hd => rfl)) | (apply v_cond; (case hc => rfl); all_goals (intro h; (try simp only [reduceCtorEq, dec_true, dec_false, decide_eq_true_eq, decide_eq_false_iff_not, Bool.not_eq_true', Bool.not_eq_false', Option.isNone_iff_eq_none, beq_true, beq_false, beq_iff_eq, beq_eq_false_iff_ne, ne_eq, decide_eq_decide, Bool.not_eq_true, Bool.not_eq_false, Decidable.not_not] at h); first | (exfalso; omega) | skip)) | (apply v_callJ (hs := qc); (case ha => rfl); (case hd => rfl)) | (apply v_read; (case hop => first | (apply r_loadNo; (case hx => rfl); (case h => (repeat (first | exact List.Mem.head _ | apply List.Mem.tail | fail))); (case hd => (repeat (first | with_reducible exact dt_nil | apply dt_here | fail))); (case hn => rfl)) | fail); (case hd => rfl)) | (apply v_box; (case hx => rfl); (case hz => rfl); (case hd => rfl); intro b) | (apply v_store; (case hp => rfl); (case hx => rfl); (case hc => rfl); (case hsz => rfl); (case h1 => rfl); (case hb => (repeat (first | exact List.Mem.head _ | apply List.Mem.tail | fail))); (case hfit => first | exact Nat.le_of_ble_eq_true rfl | fail); (case hov => (first | ((repeat (first | with_reducible exact ov_nil | apply ov_cons | fail)); done) | fail)); (case hu => repeat (first | exact Upd.here _ _ | apply Upd.there | fail))) | fail)
    refine v_retM [] (outsM_cell (vs := hdL H.pr H.pn H.base (.slice B0 H.image.length d0) (.slice B1 H.acc.length d1) (.slice B2 H.cho.length d2)) (e := 42) rfl rfl (by repeat (first | exact List.Mem.head _ | apply List.Mem.tail)) rfl) (by repeat (first | exact List.nil_sublist _ | fail)) ?_
    exact ⟨rfl, _, rfl, hh1⟩
end Go.Proofs.YtnoiahlpmgbhfaaDoor
/-
  hard (layer 19), the eleventh part: the example; the law HardOf.
-/
set_option linter.unusedSimpArgs false
set_option linter.unusedVariables false
namespace Go.Proofs.YtnoiahlpmgbhfaaDoor
open Go.Vx Go.ChangeShapes Go.WideShapes Go.ChangeAt Go.RowKit
def nopC : Cm := ⟨1, 0, 0, .empty, .empty, .empty, 0⟩
def hx1 : Rc := ⟨1, 3, 1, 0, zeroC, []⟩
def hx2 : Rc := ⟨2, 2, 1, 5, nopC, []⟩
theorem nop0 : cmdI nopC = 0 := by
  have hk : nopC.key.size = 0 ∧ nopC.val.size = 0 ∧ nopC.old.size = 0 := by decide
  rw [cmdI_eq]
  unfold cmdE
  have e : nopC.kind = 1 ∧ nopC.client = 0 ∧ nopC.seq = 0 ∧ nopC.node = 0 := ⟨rfl, rfl, rfl, rfl⟩
  rw [if_neg (by omega), if_neg (by omega), if_neg (by omega), if_neg (by omega)]
theorem hx1_ok : chkI hx1 = 0 := by
  show recI 1 3 1 0 zeroC 0 = 0
  unfold recI ranP mayP
  rw [if_neg (by omega), if_neg (by simp), if_neg (by omega), if_neg (by simp), if_neg]
  unfold othP
  simp [zeroC, zeroCm]
theorem hx2_ok : chkI hx2 = 0 := by
  show recI 2 2 1 5 nopC 0 = 0
  unfold recI ranP mayP
  rw [if_neg (by omega), if_neg (by simp), if_neg (by omega), if_neg (by rw [nop0]; simp), if_neg]
  unfold othP
  simp
theorem nopC_ok : nopC.ok := ⟨by decide, by decide, by decide, by decide, by decide, by decide, by decide⟩
theorem exHard : (hardOf [hx1, hx2]).pr = 3 ∧ (hardOf [hx1, hx2]).acc.length = 1 := by
  have e1 : stepH Hd.zero hx1 = ⟨3, 1, 0, [], [], []⟩ := by
    unfold stepH
    rw [if_pos hx1_ok]
    unfold chg
    rw [if_pos (show hx1.kind = 1 from rfl)]
    unfold Hd.prom
    rw [if_pos (by unfold lessP; decide)]
    rfl
  have e2 : stepH ⟨3, 1, 0, [], [], []⟩ hx2 = ⟨3, 1, 0, [], withL [] (entOf hx2), []⟩ := by
    unfold stepH
    rw [if_pos hx2_ok]
    unfold chg
    rw [if_neg (show ¬ hx2.kind = 1 by decide), if_pos (show hx2.kind = 2 from rfl)]
    have ep : (⟨3, 1, 0, [], [], []⟩ : Hd).prom hx2 = ⟨3, 1, 0, [], [], []⟩ := by
      unfold Hd.prom
      rw [if_neg (by unfold lessP; decide)]
    rw [ep, if_pos (by decide)]
  have e3 : hardOf [hx1, hx2] = ⟨3, 1, 0, [], withL [] (entOf hx2), []⟩ := by
    unfold hardOf
    rw [List.foldl_cons, List.foldl_cons, List.foldl_nil, e1, e2]
  rw [e3]
  have hr : RiseL [] := fun i j hj => by simp at hj
  refine ⟨rfl, ?_⟩
  simp only
  rw [withL_ins hr]
  rfl
theorem two_rs {G : GH} {b : Nat} {e : TypeId} (h : G b = some (.cells (recL 1 3 1 0 zeroC nilS ++ recL 2 2 1 5 nopC nilS).toArray e (0, 0))) : Rs G (.slice (some ⟨b, 0, none⟩) 2 2) [hx1, hx2] := by
  refine ⟨some ⟨b, 0, none⟩, 2, rfl, by simp, by simp [maxLen], fun _ => ⟨_, rfl, fun i x hx => ?_⟩⟩
  have hi : i < 2 := by
    have := (List.getElem?_eq_some_iff.1 hx).1
    simpa using this
  obtain rfl | rfl : i = 0 ∨ i = 1 := by omega
  · have : x = hx1 := by simpa using hx.symm
    subst this
    refine ⟨recL 1 3 1 0 zeroC nilS, rfl, ⟨nilS, rfl, zeroC_ok, by unfold Rc.small hx1; decide, Sl.nil⟩, fun j v hv => ?_⟩
    have hj := (List.getElem?_eq_some_iff.1 hv).1
    rw [add_mk, add_mk, Nat.zero_add]
    simp only [GH.cell?, h, Option.isSome_none, Bool.false_eq_true, if_false]
    rw [List.getElem?_toArray, List.getElem?_append_left hj]
    exact hv
  · have : x = hx2 := by simpa using hx.symm
    subst this
    refine ⟨recL 2 2 1 5 nopC nilS, rfl, ⟨nilS, rfl, nopC_ok, by unfold Rc.small hx2; decide, Sl.nil⟩, fun j v hv => ?_⟩
    rw [add_mk, add_mk, Nat.zero_add]
    simp only [GH.cell?, h, Option.isSome_none, Bool.false_eq_true, if_false]
    have hl : (recL 1 3 1 0 zeroC nilS).length = 12 := rfl
    rw [List.getElem?_toArray, List.getElem?_append_right (by rw [hl]; omega), hl, show 1 * 12 + j - 12 = j by omega]
    exact hv
theorem awake19_s {G : GH} (hT : TabsG G) : Con Tryd.prog 18 #[] G [] (Just (.bool true) G) := by
  apply Con.just
  refine v_enter Tryd.func18 rfl Tryd.ntmps18 rfl (fun B => ?_)
  repeat' (first | apply v_seq | apply v_region | apply v_nil | (apply v_pure; (case hop => first | (apply p_assign <;> rfl) | (apply p_build; (case hz => rfl); (case hv => (simp only [List.map_cons, List.map_nil]; repeat (first | with_reducible exact evs_nil | (apply evs_cons; (case h1 => rfl))))); (case hb => (apply bldL; repeat (first | exact bld_nil | (apply bld_cons; (case hpf => rfl); (case hc => rfl); (case hs => rfl); (case hl => rfl); (case ho => (first | ((repeat (first | with_reducible exact ov_nil | apply ov_cons | fail)); done) | fail))))))) | fail); (case hd => rfl)) | (apply v_buildSlice; (case hz => rfl); (case hi => rfl); (case hv => (simp only [List.map_cons, List.map_nil]; repeat (first | with_reducible exact evs_nil | (apply evs_cons; (case h1 => rfl))))); (case hp => (first | (apply pk_cons; (case hc => rfl); (case hs => rfl); (case h => (first | (apply pk_cons; (case hc => rfl); (case hs => rfl); (case h => (first | with_reducible exact pk_nil | fail)); (case he => (first | ((repeat (first | with_reducible exact ap_nil | apply ap_cons)); done) | fail))) | fail)); (case he => (first | ((repeat (first | with_reducible exact ap_nil | apply ap_cons)); done) | fail))) | fail)); (case hb => rfl); (case hd => rfl); intro b) | fail)
  refine v_frz [(b, _)] (by repeat (first | exact PickA.last | fail)) ?_
  intro G1 hle1 hG1
  have hs := two_rs (hG1 b _ (List.Mem.head _))
  refine v_call (μ1 := []) (μ2 := _) rfl (of_s (hT.le hle1) hs (by decide)) (List.Perm.refl _) rfl ?_
  rintro _ G2 _ hle2 ⟨rfl, L, rfl, hh⟩
  obtain ⟨im, av, cv, rfl, hi, ha, hc⟩ := hh
  obtain ⟨x1, x2⟩ := exHard
  obtain ⟨A0, c0, rfl, -⟩ := hi.openInt
  obtain ⟨A1, c1, rfl, -⟩ := ha.open
  obtain ⟨A2, c2, rfl, -⟩ := hc.open
  generalize hardOf [hx1, hx2] = H at *
  repeat' (first | apply v_seq | apply v_region | apply v_nil | (apply v_take; (case hg => rfl)) | (apply v_pure; (case hop => first | (apply p_move <;> rfl) | (apply p_eq <;> rfl) | (apply p_assign <;> rfl) | (apply p_pickT <;> rfl) | (apply p_lenSlice <;> rfl) | (apply p_fieldAddrB <;> rfl) | fail); (case hd => rfl)) | (apply v_guardB; (case h1 => rfl); (case h2 => rfl); all_goals (intro h; (try simp only [reduceCtorEq, dec_true, dec_false, decide_eq_true_eq, decide_eq_false_iff_not, Bool.not_eq_true', Bool.not_eq_false', Option.isNone_iff_eq_none, beq_true, beq_false, beq_iff_eq, beq_eq_false_iff_ne, ne_eq, decide_eq_decide, Bool.not_eq_true, Bool.not_eq_false, Decidable.not_not] at h); first | (exfalso; omega) | skip)) | (apply v_read; (case hop => first | (apply r_load1; rfl; (apply Cell.own; (case h => (repeat (first | exact List.Mem.head _ | fail))); rfl)) | fail); (case hd => rfl)) | (apply v_alloc; (case hz => rfl); (case hd => rfl); intro b) | (apply v_store; (case hp => rfl); (case hx => rfl); (case hc => rfl); (case hsz => rfl); (case h1 => rfl); (case hb => (repeat (first | exact List.Mem.head _ | fail))); (case hfit => first | exact Nat.le_of_ble_eq_true rfl | fail); (case hov => (first | ((repeat (first | with_reducible exact ov_nil | apply ov_cons | fail)); done) | fail)); (case hu => repeat (first | exact Upd.here _ _ | fail))) | fail)
  all_goals first
    | (exfalso; omega)
    | (refine v_ret [] (outsA1 rfl rfl) (by repeat (first | exact List.nil_sublist _ | fail)) ?_
       refine ⟨?_, rfl⟩
       rw [dec_pos (by omega)])
theorem hard_eq {l : List Rc} (hc : ∀ x ∈ l, x.cmd.ok) : (⟨(l.foldl r1 Hd.zero).pr, (l.foldl r1 Hd.zero).pn, (l.foldl r1 Hd.zero).base, (l.foldl r1 Hd.zero).image, l.foldl (accS (l.foldl r1 Hd.zero).base) [], l.foldl (choS (l.foldl r1 Hd.zero).base) []⟩ : Hd) = hardOf l := by
  have i := hard_inv hc
  rw [i.pr, i.pn, i.base, i.image, ← i.acc, ← i.cho]
end Go.Proofs.YtnoiahlpmgbhfaaDoor
/-
  VX, A CUT: what is left is shown once, whichever way led there.
-/
set_option linter.unusedVariables false
set_option linter.unusedSimpArgs false
namespace Go.Vx
open Go
attribute [local semireducible] Vc DVc
def EnvHas (σ : Env) : Env → Prop
  | [] => True
  | (i, v) :: σ' => Env.get σ i = some v ∧ EnvHas σ σ'
theorem EnvHas.get {σ : Env} : ∀ {σ' : Env}, EnvHas σ σ' → ∀ i v, Env.get σ' i = some v → Env.get σ i = some v
  | [], _, i, v, h => by simp [Env.get] at h
  | (j, u) :: σ', hh, i, v, h => by
    obtain ⟨h1, h2⟩ := hh
    simp only [Env.get] at h
    cases hb : Nat.beq j i with
    | true =>
      rw [hb] at h
      simp only [cond_true, Option.some.injEq] at h
      subst h
      have := Nat.eq_of_beq_eq_true hb
      subst this
      exact h1
    | false =>
      rw [hb] at h
      exact EnvHas.get h2 i v h
section
variable {P : Program} {fn : Func} {n : Nat} {B : Base} {Φ : Value → GH → OH → Prop} {k : List It} {σ σ' : Env} {G G0 : GH} {μ : OH}
theorem v_has (h : EnvHas σ σ') (hv : Vc P fn n B Φ k σ' G μ) : Vc P fn n B Φ k σ G μ := fun w hw a ha => hv w hw a (ha.sub h.get)
theorem v_cut {it : It} (R : Env → GH → OH → Prop) (h2 : (∀ σ G μ, R σ G μ → Vc P fn n B Φ k σ G μ) → Vc P fn n B Φ (it :: k) σ G μ) (h1 : ∀ σ G μ, R σ G μ → Vc P fn n B Φ k σ G μ) : Vc P fn n B Φ (it :: k) σ G μ := h2 h1
end
section
variable {P : Program} {fn : Func} {n : Nat} {B : Base} {Φ : Value → GH → OH → Prop} {k : List It} {σ : Env} {G G0 : GH} {μ : OH} {all : Array Oper} {m : Nat} {listed : Array Bool} {d : Nat} {op : Op} {ty : TypeId} {pos : String} {af : Array Edge} {t : TypeId} {bytes : Nat} {zero : Value} {ν : OH}
theorem x_buildSlice (i : Nat) {e : TypeId} {agg : Bool} {sz len : Nat} {ps : List (Nat × Operand)} {vs zs cs : List Value} (hi : all[i]? = some ⟨some d, .buildSlice t len ps.toArray, ty, pos, af, none⟩) (hT : Ty P t (.slice e)) (hL : Lay P e agg sz bytes zero)
    (hz : zero.cells = zs.toArray) (hl : ps.map (·.1) = List.range len) (hv : Env.evs σ (ps.map (·.2)) = some vs) (hp : packL sz vs = some cs) (hb : Nat.ble (len * sz) 16777216 = true) (hd : Nat.blt d n = true) (hν : ∀ e ∈ ν, e ∈ μ)
    (h : ∀ b, DVc P fn n B Φ all G0 ν m (listed.setIfInBounds i true) k ((d, .slice (some ⟨b, 0, none⟩) len len) :: σ) G ((b, .cells cs.toArray e (0, 0)) :: μ)) : DX P fn n B Φ all G0 ν m listed k σ G μ i :=
  x_exec i hi (m_buildSlice hz hl hv hp hb) hd fun _ _ _ ⟨b, h1, h2, h3⟩ => by rw [h1, h2, h3]; exact ⟨fun e he => List.mem_cons_of_mem _ (hν e he), h b⟩
theorem x_append (i : Nat) {e : TypeId} {agg : Bool} {sz : Nat} {s x : Operand} {v u : Value} {q q' : Nat} {xs us : List Value} {ν1 μr : OH} (hi : all[i]? = some ⟨some d, .call { callee := .builtin .append, args := #[s, x], argTypes := #[t, t] }, ty, pos, af, none⟩) (hT : Ty P t (.slice e)) (hL : Lay P e agg sz bytes zero)
    (hzs : zero.cells.size = sz) (hsz : 0 < sz) (hs : Env.ev σ s = some v) (hx : Env.ev σ x = some u) (hg : Grow e sz v q xs ν1) (hp : μ.Perm (ν1 ++ μr)) (hsrc : Src G μ u q' sz us) (h1 : us.all Value.oneCell' = true)
    (hb : (q + q') * bytes ≤ 140737488355328) (hb' : q + q' ≤ maxLen) (hd : Nat.blt d n = true) (hν : ∀ e ∈ ν, e ∈ μr)
    (h : ∀ v' ν', Grow e sz v' (q + q') (xs ++ us) ν' → DVc P fn n B Φ all G0 ν m (listed.setIfInBounds i true) k ((d, v') :: σ) G (ν' ++ μr)) : DX P fn n B Φ all G0 ν m listed k σ G μ i :=
  x_exec i hi (m_append hzs hsz hs hx hg hp hsrc h1 hb hb') hd fun v' _ _ ⟨ν', h1, h2, h3⟩ => by rw [h2, h3]; exact ⟨fun e he => List.mem_append_right _ (hν e he), h v' ν' h1⟩
/-- Some blocks of ours are frozen, inside such a region. -/
theorem d_frz (κ : OH) {r : OH} (hp : PickA κ μ r) (hν : ∀ e ∈ ν, e ∈ r) (h : ∀ G', GH.le G G' → (∀ b o, (b, o) ∈ κ → G' b = some o) → DVc P fn n B Φ all G0 ν m listed k σ G' r) : DVc P fn n B Φ all G0 ν m listed k σ G μ := by
  intro hsel hle _ w hw a ha
  have hw' := hw.perm hp.perm
  have hn := hw'.mem.nodup
  rw [List.map_append, List.nodup_append] at hn
  exact h (GH.put G κ) (GH.le_put _ _) (fun b o hb => GH.put_mem hn.1 (hw'.mem.apart b o (List.mem_append_left _ hb)) hb) hsel (GH.le_trans hle (GH.le_put _ _)) hν w hw'.freeze a ha
end
end Go.Vx
/-
  hard (layer 19), the fourteenth part: records that are appended; the law HardApplies.
-/
set_option linter.unusedSimpArgs false
set_option linter.unusedVariables false
namespace Go.Proofs.YtnoiahlpmgbhfaaDoor
open Go.Vx Go.ChangeShapes Go.WideShapes Go.ChangeAt Go.RowKit
theorem flat_get {sz : Nat} : ∀ {css : List (List Value)} {j : Nat} {u : Value}, (∀ c ∈ css, c.length = sz) → css.flatten[j]? = some u → ∃ i r cs, j = i * sz + r ∧ css[i]? = some cs ∧ cs[r]? = some u
  | [], j, u, _, h => by simp at h
  | c :: css, j, u, hs, h => by
    rw [List.flatten_cons] at h
    have hc := hs c (by simp)
    by_cases hj : j < c.length
    · rw [List.getElem?_append_left hj] at h
      exact ⟨0, j, c, by rw [Nat.zero_mul, Nat.zero_add], rfl, h⟩
    · rw [List.getElem?_append_right (by omega)] at h
      obtain ⟨i, r, cs, h1, h2, h3⟩ := flat_get (fun x hx => hs x (List.mem_cons_of_mem _ hx)) h
      refine ⟨i + 1, r, cs, ?_, h2, h3⟩
      rw [Nat.add_mul, Nat.one_mul]
      omega
theorem flat_len {sz : Nat} : ∀ {css : List (List Value)}, (∀ c ∈ css, c.length = sz) → css.flatten.length = css.length * sz
  | [], _ => by simp
  | c :: css, hs => by
    rw [List.flatten_cons, List.length_append, hs c (by simp), flat_len fun x hx => hs x (List.mem_cons_of_mem _ hx), List.length_cons, Nat.add_mul]
    omega
theorem rec_one {G : GH} {x : Rc} {cs : List Value} (h : RcR G x cs) : cs.length = 12 ∧ cs.all Value.oneCell' = true := by
  obtain ⟨iv, rfl, -, -, hi⟩ := h
  obtain ⟨A, c, rfl, -⟩ := hi.openInt
  exact ⟨rfl, rfl⟩
/-- All the cells of records, one behind the other. -/
theorem rsFlat {G : GH} {v : Value} {l : List Rc} (hs : Rs G v l) : ∃ css : List (List Value), css.length = l.length ∧ (∀ (i : Nat) x cs, l[i]? = some x → css[i]? = some cs → RcR G x cs) ∧ (∀ μ, Go.Vx.Src G μ v l.length 12 css.flatten) ∧ css.flatten.all Value.oneCell' = true := by
  obtain ⟨A, c, rfl, h1, h2, h3, h4⟩ := hs.open
  have key : ∀ i, ∃ cs : List Value, ∀ x, l[i]? = some x → cs.length = 12 ∧ RcR G x cs ∧ CellsG G ((adr A).add (i * 12)) cs := fun i => by
    cases hx : l[i]? with
    | none => exact ⟨[], fun x h => by cases h⟩
    | some y =>
      obtain ⟨cs, k1, k2, k3⟩ := h4 i y hx
      exact ⟨cs, fun x h => by cases h; exact ⟨k1, k2, k3⟩⟩
  let f := fun i => Classical.choose (key i)
  have hf : ∀ i x, l[i]? = some x → (f i).length = 12 ∧ RcR G x (f i) ∧ CellsG G ((adr A).add (i * 12)) (f i) := fun i => Classical.choose_spec (key i)
  have hget : ∀ i cs, ((List.range l.length).map f)[i]? = some cs → ∃ x, l[i]? = some x ∧ cs = f i := fun i cs hc => by
    rw [List.getElem?_map] at hc
    obtain ⟨j, hj, rfl⟩ := Option.map_eq_some_iff.1 hc
    obtain ⟨hj1, hj2⟩ := List.getElem?_eq_some_iff.1 hj
    rw [List.length_range] at hj1
    rw [List.getElem_range] at hj2
    subst hj2
    exact ⟨_, List.getElem?_eq_getElem hj1, rfl⟩
  have hlen : ∀ cs ∈ (List.range l.length).map f, cs.length = 12 := fun cs hc => by
    obtain ⟨i, hi, rfl⟩ := List.getElem_of_mem hc
    obtain ⟨x, hx, he⟩ := hget i _ (List.getElem?_eq_getElem hi)
    rw [he]
    exact (hf i x hx).1
  refine ⟨(List.range l.length).map f, by simp, fun i x cs hx hc => ?_, fun μ => ?_, ?_⟩
  · obtain ⟨y, hy, rfl⟩ := hget i cs hc
    exact (hf i x hx).2.1
  · refine ⟨by rw [flat_len hlen]; simp, A, c, rfl, fun h0 => ?_⟩
    have hA := h3 h0
    obtain ⟨a, rfl⟩ := Option.isSome_iff_exists.1 hA
    refine ⟨a, rfl, CellsAt.frozen fun j u hu => ?_⟩
    obtain ⟨i, r, cs, rfl, hi, hr⟩ := flat_get hlen hu
    obtain ⟨y, hy, rfl⟩ := hget i cs hi
    have := (hf i y hy).2.2 r u hr
    rw [add_add] at this
    exact this
  · rw [List.all_eq_true]
    intro u hu
    obtain ⟨cs, hcs, hu⟩ := List.mem_flatten.1 hu
    obtain ⟨i, hi, rfl⟩ := List.getElem_of_mem hcs
    obtain ⟨x, hx, he⟩ := hget i _ (List.getElem?_eq_getElem hi)
    rw [he] at hu
    exact List.all_eq_true.1 (rec_one (hf i x hx).2.1).2 u hu
/-- Records of ours that have grown, frozen. -/
theorem rs_of_grow {G G' : GH} {v : Value} {l : List Rc} {x : Rc} {rx : List Value} {css : List (List Value)} {ν : OH} {m : Nat} {us : List Value} (h : Grow 29 12 v m us ν) (hm : m = l.length + 1) (hu : us = css.flatten ++ rx) (hG : ∀ b o, (b, o) ∈ ν → G' b = some o) (hl : css.length = l.length) (hle : GH.le G G') (hR : ∀ (i : Nat) y cs, l[i]? = some y → css[i]? = some cs → RcR G y cs) (hx : RcR G x rx) : Rs G' v (l ++ [x]) := by
  subst hm hu
  refine Grow.sl (css := css ++ [rx]) (by simpa using h) hG (by simp [hl]) fun i y cs hy hc => ?_
  have : RcR G' y cs := by
    by_cases hi : i < l.length
    · rw [List.getElem?_append_left hi] at hy
      rw [List.getElem?_append_left (by omega)] at hc
      exact (hR i y cs hy hc).le hle
    · rw [List.getElem?_append_right (by omega)] at hy hc
      obtain ⟨h1, h2⟩ := List.getElem?_eq_some_iff.1 hy
      have e : i = l.length := by simp at h1; omega
      subst e
      rw [Nat.sub_self] at hy
      rw [hl, Nat.sub_self] at hc
      simp only [List.getElem?_cons_zero, Option.some.injEq] at hy hc
      subst hy hc
      exact hx.le hle
  exact ⟨(rec_one this).1, this⟩
theorem one_rs {G : GH} {b : Nat} {e : TypeId} {x : Rc} {rx : List Value} (h : G b = some (.cells rx.toArray e (0, 0))) (hx : RcR G x rx) : Rs G (.slice (some ⟨b, 0, none⟩) 1 1) [x] := by
  refine ⟨some ⟨b, 0, none⟩, 1, rfl, by simp, by simp [maxLen], fun _ => ⟨_, rfl, fun i y hy => ?_⟩⟩
  have hi : i < 1 := by
    have := (List.getElem?_eq_some_iff.1 hy).1
    simpa using this
  obtain rfl : i = 0 := by omega
  have : y = x := by simpa using hy.symm
  subst this
  refine ⟨rx, (rec_one hx).1, hx, fun j v hv => ?_⟩
  rw [add_mk, add_mk, Nat.zero_add]
  simp only [GH.cell?, h, Option.isSome_none, Bool.false_eq_true, if_false]
  rw [List.getElem?_toArray]
  simpa using hv
theorem hardOf_snoc (l : List Rc) (x : Rc) : hardOf (l ++ [x]) = stepH (hardOf l) x := by
  unfold hardOf
  rw [List.foldl_append]
  rfl
end Go.Proofs.YtnoiahlpmgbhfaaDoor
