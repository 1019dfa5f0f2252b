/-
  hard (layer 19), the fifth part: what was chosen, an image, any record.
-/
import Derived.Test.YtnoiahlpmgbhfaaDoorM3
set_option linter.unusedSimpArgs false
set_option linter.unusedVariables false
namespace Go.Proofs.YtnoiahlpmgbhfaaDoor
open Go.Vx Go.ChangeShapes Go.WideShapes Go.ChangeAt Go.RowKit
noncomputable def choH (h : Hd) (x : Rc) : Hd := if hitB h.cho x.index = false ∧ h.base < x.index then { h with cho := withL h.cho ⟨x.index, 0, 0, x.cmd⟩ } else h
theorem choose_s {G : GH} {H : Hd} {L : List Value} {x : Rc} {xv : Value} {n : Nat} (hb : Nat) (hh : HdV G H L) (g : Good n H) (hn : n ≤ 200) (hx : RcV G x xv) (hok : ∀ e ∈ withL H.cho ⟨x.index, 0, 0, x.cmd⟩, e.ok) :
    Con Tryd.prog 105 #[.pointer (some ⟨hb, 0, none⟩), xv] G [(hb, hdO L)] (fun _ G' μ' => ∃ L', μ' = [(hb, hdO L')] ∧ HdV G' (choH H x) L') := by
  obtain ⟨im, av, cv, rfl, hi, ha, hc⟩ := hh
  obtain ⟨A1, c1, rfl, -⟩ := id hc.open
  obtain ⟨iv, rfl, hxi⟩ := hx
  have qf := find_s x.index hc g.rcho
  have qw := with_s ⟨x.index, 0, 0, x.cmd⟩ hc g.rcho (by have := g.ncho; omega)
  generalize findE H.cho x.index = fe at *
  unfold choH
  cases hbit : hitB H.cho x.index
  all_goals
    rw [hbit] at qf
  · refine v_enter Tryd.func105 rfl Tryd.ntmps105 rfl (fun B => ?_)
    repeat' (first | apply v_seq | apply v_region | apply v_nil | (apply v_box (zs := recL x.kind x.round x.node x.index x.cmd iv); (case hx => rfl); (case hz => rfl); (case hd => rfl); intro xb) | fail)
    refine d_start _ (by kernel_rfl) (by kernel_rfl) (fun _ he => he) ?_
    all_goals (first | (apply d_take 0; (case hi => rfl); (case hop => first | (apply PureOp.read; apply p_move <;> rfl)); (case hf => kernel_rfl); (case hr => kernel_rfl); (case hd => rfl)) | fail)
    all_goals (first | (apply d_take 1; (case hi => rfl); (case hop => first | (apply PureOp.read; apply p_nilCheck <;> rfl)); (case hf => kernel_rfl); (case hr => kernel_rfl); (case hd => rfl)) | fail)
    all_goals (first | (apply d_take 2; (case hi => rfl); (case hop => first | (apply PureOp.read; apply p_fieldAddrB <;> rfl) | fail); (case hf => kernel_rfl); (case hr => kernel_rfl); (case hd => rfl)) | fail)
    all_goals (first | (apply d_take 3; (case hi => rfl); (case hop => first | (apply PureOp.read; apply p_fieldAddrB <;> rfl) | fail); (case hf => kernel_rfl); (case hr => kernel_rfl); (case hd => rfl)) | fail)
    all_goals (first | (apply d_take 4; (case hi => rfl); (case hop => first   | (apply r_loadNo; (case hx => rfl); (case h => (repeat (fail))); (case hd => (repeat (fail))); (case hn => rfl)) | (apply r_load1; rfl; (apply Cell.own; (case h => (repeat (first | exact List.Mem.head _ | apply List.Mem.tail | fail))); rfl)) | (apply r_loadN; rfl; (apply CellsAt.own; (case h => (repeat (fail)))); rfl)); (case hf => kernel_rfl); (case hr => kernel_rfl); (case hd => rfl)) | fail)
    all_goals (first | (apply d_take 5; (case hi => rfl); (case hop => first | (apply PureOp.read; apply p_fieldAddrB <;> rfl) | fail); (case hf => kernel_rfl); (case hr => kernel_rfl); (case hd => rfl)) | fail)
    all_goals (first | (apply d_take 6; (case hi => rfl); (case hop => first   | (apply r_loadNo; (case hx => rfl); (case h => (repeat (fail))); (case hd => (repeat (fail))); (case hn => rfl)) | (apply r_load1; rfl; (apply Cell.own; (case h => (repeat (first | exact List.Mem.head _ | fail))); rfl)) | (apply r_loadN; rfl; (apply CellsAt.own; (case h => (repeat (fail)))); rfl)); (case hf => kernel_rfl); (case hr => kernel_rfl); (case hd => rfl)) | fail)
    refine d_fork 7 11 (by kernel_rfl) ?fk1a ?fk1b
    case' fk1a =>
      first | (apply x_exec 7; (case hi => rfl); (case hop => apply m_callFJ (hs := qf) <;> rfl); (case hd => rfl); rintro _ _ _ ⟨rfl, rfl, rfl⟩; refine ⟨(by intro e he; first | exact he | fail), ?_⟩) | fail
      all_goals (first | (apply d_take 8; (case hi => rfl); (case hop => first | (apply PureOp.read; apply p_move <;> rfl)); (case hf => kernel_rfl); (case hr => kernel_rfl); (case hd => rfl)) | fail)
      all_goals (first | (apply d_take 9; (case hi => rfl); (case hop => first | (apply PureOp.read; apply p_extract0 <;> rfl) | fail); (case hf => kernel_rfl); (case hr => kernel_rfl); (case hd => rfl)) | fail)
      all_goals (first | (apply d_take 10; (case hi => rfl); (case hop => first | (apply PureOp.read; apply p_extract1 <;> rfl) | fail); (case hf => kernel_rfl); (case hr => kernel_rfl); (case hd => rfl)) | fail)
      all_goals (first | (apply d_exec 11; (case hi => rfl); (case hr => kernel_rfl); (case hop => exact m_alloc rfl); (case hd => rfl); rintro _ _ _ ⟨eb, rfl, rfl, rfl⟩; refine ⟨(by intro e he; first | (simp at he; simp [he]) | fail), ?_⟩) | fail)
      all_goals (first | (apply d_store 12; (case hi => rfl); (case hr => kernel_rfl); (case hL => infer_instance); (case hp => rfl); (case hx => rfl); (case hc => rfl); (case hsz => rfl); (case h1 => rfl); (case hb => (repeat (first | exact List.Mem.head _ | fail))); (case hfit => first | exact Nat.le_of_ble_eq_true rfl | fail); (case hov => (first | ((repeat (first | with_reducible exact ov_nil | apply ov_cons | fail)); done) | fail)); (case hu => repeat (first | exact Upd.here _ _ | fail)); (case hν' => intro e he; first | (simp at he; simp [he]) | fail)) | fail)
      all_goals (first | (apply d_take 13; (case hi => rfl); (case hop => first | (apply PureOp.read; apply p_assign <;> rfl)); (case hf => kernel_rfl); (case hr => kernel_rfl); (case hd => rfl)) | fail)
      all_goals (apply d_done; (case hr => kernel_rfl))
    case' fk1b =>
      first | (apply x_exec 11; (case hi => rfl); (case hop => exact m_alloc rfl); (case hd => rfl); rintro _ _ _ ⟨eb, rfl, rfl, rfl⟩; refine ⟨(by intro e he; first | (simp at he; simp [he]) | fail), ?_⟩) | fail
      all_goals (first | (apply d_callJ 7 (hs := qf); (case hi => rfl); (case hr => kernel_rfl); (case ha => rfl); (case hd => rfl)) | fail)
      all_goals (first | (apply d_take 8; (case hi => rfl); (case hop => first | (apply PureOp.read; apply p_move <;> rfl)); (case hf => kernel_rfl); (case hr => kernel_rfl); (case hd => rfl)) | fail)
      all_goals (first | (apply d_take 9; (case hi => rfl); (case hop => first | (apply PureOp.read; apply p_extract0 <;> rfl) | fail); (case hf => kernel_rfl); (case hr => kernel_rfl); (case hd => rfl)) | fail)
      all_goals (first | (apply d_take 10; (case hi => rfl); (case hop => first | (apply PureOp.read; apply p_extract1 <;> rfl) | fail); (case hf => kernel_rfl); (case hr => kernel_rfl); (case hd => rfl)) | fail)
      all_goals (first | (apply d_store 12; (case hi => rfl); (case hr => kernel_rfl); (case hL => infer_instance); (case hp => rfl); (case hx => rfl); (case hc => rfl); (case hsz => rfl); (case h1 => rfl); (case hb => (repeat (first | exact List.Mem.head _ | fail))); (case hfit => first | exact Nat.le_of_ble_eq_true rfl | fail); (case hov => (first | ((repeat (first | with_reducible exact ov_nil | apply ov_cons | fail)); done) | fail)); (case hu => repeat (first | exact Upd.here _ _ | fail)); (case hν' => intro e he; first | (simp at he; simp [he]) | fail)) | fail)
      all_goals (first | (apply d_take 13; (case hi => rfl); (case hop => first | (apply PureOp.read; apply p_assign <;> rfl)); (case hf => kernel_rfl); (case hr => kernel_rfl); (case hd => rfl)) | fail)
      all_goals (apply d_done; (case hr => kernel_rfl))
    all_goals
      repeat' (first | apply v_seq | fail)
    all_goals
      refine d_start _ (by kernel_rfl) (by kernel_rfl) (fun _ he => he) ?_
      all_goals (first | (apply d_take 0; (case hi => rfl); (case hop => first | (apply PureOp.read; apply p_move <;> rfl)); (case hf => kernel_rfl); (case hr => kernel_rfl); (case hd => rfl)) | fail)
      all_goals (first | (apply d_take 1; (case hi => rfl); (case hop => first | (apply PureOp.read; apply p_not <;> rfl)); (case hf => kernel_rfl); (case hr => kernel_rfl); (case hd => rfl)) | fail)
      all_goals (first | (apply d_take 2; (case hi => rfl); (case hop => first | (apply PureOp.read; apply p_move <;> rfl)); (case hf => kernel_rfl); (case hr => kernel_rfl); (case hd => rfl)) | fail)
      all_goals (try (apply d_guardB 3; (case hi => rfl); (case hgd => rfl); (case h1 => rfl); (case h2 => first | rfl); all_goals (intro h; (try simp only [reduceCtorEq, dec_true, dec_false, decide_eq_true_eq, decide_eq_false_iff_not, Bool.not_eq_true', Bool.not_eq_false', Option.isNone_iff_eq_none, beq_true, beq_false, beq_iff_eq, beq_eq_false_iff_ne, ne_eq, decide_eq_decide, Bool.not_eq_true, Bool.not_eq_false, Decidable.not_not] at h); first | done | skip)))
      all_goals (first | (apply d_takeG 3; (case hi => rfl); (case hg => rfl); (case hop => first | (apply PureOp.read; apply p_fieldAddrB <;> rfl) | fail); (case hf => kernel_rfl); (case hr => kernel_rfl); (case hd => rfl)) | fail)
      all_goals (try (apply d_guardB 4; (case hi => rfl); (case hgd => rfl); (case h1 => rfl); (case h2 => first | rfl); all_goals (intro h; (try simp only [reduceCtorEq, dec_true, dec_false, decide_eq_true_eq, decide_eq_false_iff_not, Bool.not_eq_true', Bool.not_eq_false', Option.isNone_iff_eq_none, beq_true, beq_false, beq_iff_eq, beq_eq_false_iff_ne, ne_eq, decide_eq_decide, Bool.not_eq_true, Bool.not_eq_false, Decidable.not_not] at h); first | done | skip)))
      all_goals (first | (apply d_takeG 4; (case hi => rfl); (case hg => rfl); (case hop => first   | (apply r_loadNo; (case hx => rfl); (case h => (repeat (fail))); (case hd => (repeat (fail))); (case hn => rfl)) | (apply r_load1; rfl; (apply Cell.own; (case h => (repeat (first | exact List.Mem.head _ | apply List.Mem.tail | fail))); rfl)) | (apply r_loadN; rfl; (apply CellsAt.own; (case h => (repeat (fail)))); rfl)); (case hf => kernel_rfl); (case hr => kernel_rfl); (case hd => rfl)) | fail)
      all_goals (try (apply d_guardB 5; (case hi => rfl); (case hgd => rfl); (case h1 => rfl); (case h2 => first | rfl); all_goals (intro h; (try simp only [reduceCtorEq, dec_true, dec_false, decide_eq_true_eq, decide_eq_false_iff_not, Bool.not_eq_true', Bool.not_eq_false', Option.isNone_iff_eq_none, beq_true, beq_false, beq_iff_eq, beq_eq_false_iff_ne, ne_eq, decide_eq_decide, Bool.not_eq_true, Bool.not_eq_false, Decidable.not_not] at h); first | done | skip)))
      all_goals (first | (apply d_takeG 5; (case hi => rfl); (case hg => rfl); (case hop => first | (apply PureOp.read; apply p_move <;> rfl)); (case hf => kernel_rfl); (case hr => kernel_rfl); (case hd => rfl)) | fail)
      all_goals (try (apply d_guardB 6; (case hi => rfl); (case hgd => rfl); (case h1 => rfl); (case h2 => first | rfl); all_goals (intro h; (try simp only [reduceCtorEq, dec_true, dec_false, decide_eq_true_eq, decide_eq_false_iff_not, Bool.not_eq_true', Bool.not_eq_false', Option.isNone_iff_eq_none, beq_true, beq_false, beq_iff_eq, beq_eq_false_iff_ne, ne_eq, decide_eq_decide, Bool.not_eq_true, Bool.not_eq_false, Decidable.not_not] at h); first | done | skip)))
      all_goals (first | (apply d_takeG 6; (case hi => rfl); (case hg => rfl); (case hop => first | (apply PureOp.read; apply p_nilCheck <;> rfl)); (case hf => kernel_rfl); (case hr => kernel_rfl); (case hd => rfl)) | fail)
      all_goals (try (apply d_guardB 7; (case hi => rfl); (case hgd => rfl); (case h1 => rfl); (case h2 => first | rfl); all_goals (intro h; (try simp only [reduceCtorEq, dec_true, dec_false, decide_eq_true_eq, decide_eq_false_iff_not, Bool.not_eq_true', Bool.not_eq_false', Option.isNone_iff_eq_none, beq_true, beq_false, beq_iff_eq, beq_eq_false_iff_ne, ne_eq, decide_eq_decide, Bool.not_eq_true, Bool.not_eq_false, Decidable.not_not] at h); first | done | skip)))
      all_goals (first | (apply d_takeG 7; (case hi => rfl); (case hg => rfl); (case hop => first | (apply PureOp.read; apply p_fieldAddrB <;> rfl) | fail); (case hf => kernel_rfl); (case hr => kernel_rfl); (case hd => rfl)) | fail)
      all_goals (try (apply d_guardB 8; (case hi => rfl); (case hgd => rfl); (case h1 => rfl); (case h2 => first | rfl); all_goals (intro h; (try simp only [reduceCtorEq, dec_true, dec_false, decide_eq_true_eq, decide_eq_false_iff_not, Bool.not_eq_true', Bool.not_eq_false', Option.isNone_iff_eq_none, beq_true, beq_false, beq_iff_eq, beq_eq_false_iff_ne, ne_eq, decide_eq_decide, Bool.not_eq_true, Bool.not_eq_false, Decidable.not_not] at h); first | done | skip)))
      all_goals (first | (apply d_takeG 8; (case hi => rfl); (case hg => rfl); (case hop => first | (apply PureOp.read; apply p_fieldAddrB <;> rfl) | fail); (case hf => kernel_rfl); (case hr => kernel_rfl); (case hd => rfl)) | fail)
      all_goals (try (apply d_guardB 9; (case hi => rfl); (case hgd => rfl); (case h1 => rfl); (case h2 => first | rfl); all_goals (intro h; (try simp only [reduceCtorEq, dec_true, dec_false, decide_eq_true_eq, decide_eq_false_iff_not, Bool.not_eq_true', Bool.not_eq_false', Option.isNone_iff_eq_none, beq_true, beq_false, beq_iff_eq, beq_eq_false_iff_ne, ne_eq, decide_eq_decide, Bool.not_eq_true, Bool.not_eq_false, Decidable.not_not] at h); first | done | skip)))
      all_goals (first | (apply d_takeG 9; (case hi => rfl); (case hg => rfl); (case hop => first   | (apply r_loadNo; (case hx => rfl); (case h => (repeat (fail))); (case hd => (repeat (fail))); (case hn => rfl)) | (apply r_load1; rfl; (apply Cell.own; (case h => (repeat (first | exact List.Mem.head _ | apply List.Mem.tail | fail))); rfl)) | (apply r_loadN; rfl; (apply CellsAt.own; (case h => (repeat (fail)))); rfl)); (case hf => kernel_rfl); (case hr => kernel_rfl); (case hd => rfl)) | fail)
      all_goals (try (apply d_guardB 10; (case hi => rfl); (case hgd => rfl); (case h1 => rfl); (case h2 => first | rfl); all_goals (intro h; (try simp only [reduceCtorEq, dec_true, dec_false, decide_eq_true_eq, decide_eq_false_iff_not, Bool.not_eq_true', Bool.not_eq_false', Option.isNone_iff_eq_none, beq_true, beq_false, beq_iff_eq, beq_eq_false_iff_ne, ne_eq, decide_eq_decide, Bool.not_eq_true, Bool.not_eq_false, Decidable.not_not] at h); first | done | skip)))
      all_goals (first | (apply d_takeG 10; (case hi => rfl); (case hg => rfl); (case hop => first | (apply PureOp.read; apply p_gt <;> rfl)); (case hf => kernel_rfl); (case hr => kernel_rfl); (case hd => rfl)) | fail)
      all_goals (first | (apply d_take 11; (case hi => rfl); (case hop => first | (apply PureOp.read; apply p_pickT <;> rfl) | fail); (case hf => kernel_rfl); (case hr => kernel_rfl); (case hd => rfl)) | fail)
      all_goals (apply d_done; (case hr => kernel_rfl))
    all_goals
      repeat' (first | apply v_skip | (apply v_cond; (case hc => rfl); all_goals (intro h; (try simp only [reduceCtorEq, dec_true, dec_false, decide_eq_true_eq, decide_eq_false_iff_not, Bool.not_eq_true', Bool.not_eq_false', Option.isNone_iff_eq_none, beq_true, beq_false, beq_iff_eq, beq_eq_false_iff_ne, ne_eq, decide_eq_decide, Bool.not_eq_true, Bool.not_eq_false, Decidable.not_not] at h); first | skip)) | fail)
    · have hlt := h
      refine d_start [(xb, .cells (recL x.kind x.round x.node x.index x.cmd iv).toArray 29 (0, 0))] (by kernel_rfl) (by kernel_rfl) (by intro e he; first | (simp at he; simp [he]) | fail) ?_
      all_goals (first | (apply d_take 0; (case hi => rfl); (case hop => first | (apply PureOp.read; apply p_move <;> rfl)); (case hf => kernel_rfl); (case hr => kernel_rfl); (case hd => rfl)) | fail)
      all_goals (first | (apply d_take 1; (case hi => rfl); (case hop => first | (apply PureOp.read; apply p_move <;> rfl)); (case hf => kernel_rfl); (case hr => kernel_rfl); (case hd => rfl)) | fail)
      all_goals (first | (apply d_take 2; (case hi => rfl); (case hop => first | (apply PureOp.read; apply p_nilCheck <;> rfl)); (case hf => kernel_rfl); (case hr => kernel_rfl); (case hd => rfl)) | fail)
      all_goals (first | (apply d_take 3; (case hi => rfl); (case hop => first | (apply PureOp.read; apply p_fieldAddrB <;> rfl) | fail); (case hf => kernel_rfl); (case hr => kernel_rfl); (case hd => rfl)) | fail)
      all_goals (first | (apply d_take 4; (case hi => rfl); (case hop => first | (apply PureOp.read; apply p_fieldAddrB <;> rfl) | fail); (case hf => kernel_rfl); (case hr => kernel_rfl); (case hd => rfl)) | fail)
      all_goals (first | (apply d_take 6; (case hi => rfl); (case hop => first | (apply PureOp.read; apply p_fieldAddrB <;> rfl) | fail); (case hf => kernel_rfl); (case hr => kernel_rfl); (case hd => rfl)) | fail)
      all_goals (first | (apply d_take 7; (case hi => rfl); (case hop => first   | (apply r_loadNo; (case hx => rfl); (case h => (repeat (fail))); (case hd => (repeat (fail))); (case hn => rfl)) | (apply r_load1; rfl; (apply Cell.own; (case h => (repeat (first | exact List.Mem.head _ | fail))); rfl)) | (apply r_loadN; rfl; (apply CellsAt.own; (case h => (repeat (fail)))); rfl)); (case hf => kernel_rfl); (case hr => kernel_rfl); (case hd => rfl)) | fail)
      all_goals (first | (apply d_take 8; (case hi => rfl); (case hop => first | (apply PureOp.read; apply p_fieldAddrB <;> rfl) | fail); (case hf => kernel_rfl); (case hr => kernel_rfl); (case hd => rfl)) | fail)
      all_goals (first | (apply d_take 9; (case hi => rfl); (case hop => first   | (apply r_loadNo; (case hx => rfl); (case h => (repeat (first | exact List.Mem.head _ | fail))); (case hd => (repeat (first | with_reducible exact dt_nil | apply dt_here | fail))); (case hn => rfl)) | (apply r_load1; rfl; (apply Cell.own; (case h => (repeat (fail))); rfl)) | (apply r_loadN; rfl; (apply CellsAt.own; (case h => (repeat (fail)))); rfl)); (case hf => kernel_rfl); (case hr => kernel_rfl); (case hd => rfl)) | fail)
      all_goals (first | (apply d_take 10; (case hi => rfl); (case hop => first | (apply PureOp.read; apply p_build; (case hz => rfl); (case hv => (simp only [List.map_cons, List.map_nil]; repeat (first | with_reducible exact evs_nil | (apply evs_cons; (case h1 => rfl))))); (case hb => (apply bldL; repeat (first | exact bld_nil | (apply bld_cons; (case hpf => rfl); (case hc => rfl); (case hs => rfl); (case hl => rfl); (case ho => (first | ((repeat (first | with_reducible exact ov_nil | apply ov_cons | fail)); done) | fail)))))))); (case hf => kernel_rfl); (case hr => kernel_rfl); (case hd => rfl)) | fail)
      all_goals (first | (apply d_keep 5 (hop := ReadOp.move ?hop); (case hi => rfl); (case hr => kernel_rfl); (case hop => (apply r_load1; rfl; (apply Cell.own; (case h => repeat (first | exact List.Mem.head _ | apply List.Mem.tail | fail)); rfl))); (case hd => rfl)) | fail)
      all_goals (first | ((apply d_call 11 (hs := qw); (case hi => rfl); (case hr => kernel_rfl);  (case ha => rfl); (case hp => exact List.Perm.refl _); (case hd => rfl); (case hν' => intro e he; simp at he; simp [he]); rintro r1 G1 ν1 - ⟨rfl, hg1⟩; obtain ⟨A2, c2, rfl, -, -⟩ := hg1.shape)) | fail)
      all_goals (first | (apply d_take 12; (case hi => rfl); (case hop => first | (apply PureOp.read; apply p_nilCheck <;> rfl)); (case hf => kernel_rfl); (case hr => kernel_rfl); (case hd => rfl)) | fail)
      all_goals (first | (apply d_take 13; (case hi => rfl); (case hop => first | (apply PureOp.read; apply p_fieldAddrB <;> rfl) | fail); (case hf => kernel_rfl); (case hr => kernel_rfl); (case hd => rfl)) | fail)
      all_goals (first | (apply d_take 14; (case hi => rfl); (case hop => first | (apply PureOp.read; apply p_fieldAddrB <;> rfl) | fail); (case hf => kernel_rfl); (case hr => kernel_rfl); (case hd => rfl)) | fail)
      all_goals (first | (apply d_store 15; (case hi => rfl); (case hr => kernel_rfl); (case hL => infer_instance); (case hp => rfl); (case hx => rfl); (case hc => rfl); (case hsz => rfl); (case h1 => rfl); (case hb => (repeat (first | exact List.Mem.head _ | apply List.Mem.tail | apply List.mem_append_right))); (case hfit => first | exact Nat.le_of_ble_eq_true rfl | fail); (case hov => (first | ((repeat (first | with_reducible exact ov_nil | apply ov_cons | fail)); done) | fail)); (case hu => repeat (first | exact Upd.here _ _ | apply Upd.there | apply Upd.app)); (case hν' => intro e he; first | (simp at he; simp [he]) | fail)) | fail)
      all_goals (apply d_done; (case hr => kernel_rfl))
      repeat' (fail)
      refine v_frz ν1 (by repeat (first | exact PickA.here _ | fail)) ?_
      intro G2 hle2 hG2
      refine v_end [(hb, _)] (outsA0 rfl) (by repeat (first | exact List.Sublist.refl _ | apply List.Sublist.cons | fail)) ?_
      rw [if_pos ⟨rfl, hlt⟩]
      exact ⟨_, rfl, _, _, _, rfl, hi.mono hle2, esle ha hle2, es_of_grow hg1 hG2 hok⟩
    · have hlt := h
      refine v_end [(hb, _)] (outsA0 rfl) (by repeat (first | exact List.Sublist.refl _ | apply List.Sublist.cons | fail)) ?_
      rw [if_neg fun hh => hlt hh.2]
      exact ⟨_, rfl, _, _, _, rfl, hi, ha, hc⟩
    · have hlt := h
      refine d_start [(xb, .cells (recL x.kind x.round x.node x.index x.cmd iv).toArray 29 (0, 0))] (by kernel_rfl) (by kernel_rfl) (by intro e he; first | (simp at he; simp [he]) | fail) ?_
      all_goals (first | (apply d_take 0; (case hi => rfl); (case hop => first | (apply PureOp.read; apply p_move <;> rfl)); (case hf => kernel_rfl); (case hr => kernel_rfl); (case hd => rfl)) | fail)
      all_goals (first | (apply d_take 1; (case hi => rfl); (case hop => first | (apply PureOp.read; apply p_move <;> rfl)); (case hf => kernel_rfl); (case hr => kernel_rfl); (case hd => rfl)) | fail)
      all_goals (first | (apply d_take 2; (case hi => rfl); (case hop => first | (apply PureOp.read; apply p_nilCheck <;> rfl)); (case hf => kernel_rfl); (case hr => kernel_rfl); (case hd => rfl)) | fail)
      all_goals (first | (apply d_take 3; (case hi => rfl); (case hop => first | (apply PureOp.read; apply p_fieldAddrB <;> rfl) | fail); (case hf => kernel_rfl); (case hr => kernel_rfl); (case hd => rfl)) | fail)
      all_goals (first | (apply d_take 4; (case hi => rfl); (case hop => first | (apply PureOp.read; apply p_fieldAddrB <;> rfl) | fail); (case hf => kernel_rfl); (case hr => kernel_rfl); (case hd => rfl)) | fail)
      all_goals (first | (apply d_take 6; (case hi => rfl); (case hop => first | (apply PureOp.read; apply p_fieldAddrB <;> rfl) | fail); (case hf => kernel_rfl); (case hr => kernel_rfl); (case hd => rfl)) | fail)
      all_goals (first | (apply d_take 7; (case hi => rfl); (case hop => first   | (apply r_loadNo; (case hx => rfl); (case h => (repeat (fail))); (case hd => (repeat (fail))); (case hn => rfl)) | (apply r_load1; rfl; (apply Cell.own; (case h => (repeat (first | exact List.Mem.head _ | fail))); rfl)) | (apply r_loadN; rfl; (apply CellsAt.own; (case h => (repeat (fail)))); rfl)); (case hf => kernel_rfl); (case hr => kernel_rfl); (case hd => rfl)) | fail)
      all_goals (first | (apply d_take 8; (case hi => rfl); (case hop => first | (apply PureOp.read; apply p_fieldAddrB <;> rfl) | fail); (case hf => kernel_rfl); (case hr => kernel_rfl); (case hd => rfl)) | fail)
      all_goals (first | (apply d_take 9; (case hi => rfl); (case hop => first   | (apply r_loadNo; (case hx => rfl); (case h => (repeat (first | exact List.Mem.head _ | fail))); (case hd => (repeat (first | with_reducible exact dt_nil | apply dt_here | fail))); (case hn => rfl)) | (apply r_load1; rfl; (apply Cell.own; (case h => (repeat (fail))); rfl)) | (apply r_loadN; rfl; (apply CellsAt.own; (case h => (repeat (fail)))); rfl)); (case hf => kernel_rfl); (case hr => kernel_rfl); (case hd => rfl)) | fail)
      all_goals (first | (apply d_take 10; (case hi => rfl); (case hop => first | (apply PureOp.read; apply p_build; (case hz => rfl); (case hv => (simp only [List.map_cons, List.map_nil]; repeat (first | with_reducible exact evs_nil | (apply evs_cons; (case h1 => rfl))))); (case hb => (apply bldL; repeat (first | exact bld_nil | (apply bld_cons; (case hpf => rfl); (case hc => rfl); (case hs => rfl); (case hl => rfl); (case ho => (first | ((repeat (first | with_reducible exact ov_nil | apply ov_cons | fail)); done) | fail)))))))); (case hf => kernel_rfl); (case hr => kernel_rfl); (case hd => rfl)) | fail)
      all_goals (first | (apply d_keep 5 (hop := ReadOp.move ?hop); (case hi => rfl); (case hr => kernel_rfl); (case hop => (apply r_load1; rfl; (apply Cell.own; (case h => repeat (first | exact List.Mem.head _ | apply List.Mem.tail | fail)); rfl))); (case hd => rfl)) | fail)
      all_goals (first | ((apply d_call 11 (hs := qw); (case hi => rfl); (case hr => kernel_rfl);  (case ha => rfl); (case hp => exact List.Perm.refl _); (case hd => rfl); (case hν' => intro e he; simp at he; simp [he]); rintro r1 G1 ν1 - ⟨rfl, hg1⟩; obtain ⟨A2, c2, rfl, -, -⟩ := hg1.shape)) | fail)
      all_goals (first | (apply d_take 12; (case hi => rfl); (case hop => first | (apply PureOp.read; apply p_nilCheck <;> rfl)); (case hf => kernel_rfl); (case hr => kernel_rfl); (case hd => rfl)) | fail)
      all_goals (first | (apply d_take 13; (case hi => rfl); (case hop => first | (apply PureOp.read; apply p_fieldAddrB <;> rfl) | fail); (case hf => kernel_rfl); (case hr => kernel_rfl); (case hd => rfl)) | fail)
      all_goals (first | (apply d_take 14; (case hi => rfl); (case hop => first | (apply PureOp.read; apply p_fieldAddrB <;> rfl) | fail); (case hf => kernel_rfl); (case hr => kernel_rfl); (case hd => rfl)) | fail)
      all_goals (first | (apply d_store 15; (case hi => rfl); (case hr => kernel_rfl); (case hL => infer_instance); (case hp => rfl); (case hx => rfl); (case hc => rfl); (case hsz => rfl); (case h1 => rfl); (case hb => (repeat (first | exact List.Mem.head _ | apply List.Mem.tail | apply List.mem_append_right))); (case hfit => first | exact Nat.le_of_ble_eq_true rfl | fail); (case hov => (first | ((repeat (first | with_reducible exact ov_nil | apply ov_cons | fail)); done) | fail)); (case hu => repeat (first | exact Upd.here _ _ | apply Upd.there | apply Upd.app)); (case hν' => intro e he; first | (simp at he; simp [he]) | fail)) | fail)
      all_goals (apply d_done; (case hr => kernel_rfl))
      repeat' (fail)
      refine v_frz ν1 (by repeat (first | exact PickA.here _ | fail)) ?_
      intro G2 hle2 hG2
      refine v_end [(hb, _)] (outsA0 rfl) (by repeat (first | exact List.Sublist.refl _ | apply List.Sublist.cons | fail)) ?_
      rw [if_pos ⟨rfl, hlt⟩]
      exact ⟨_, rfl, _, _, _, rfl, hi.mono hle2, esle ha hle2, es_of_grow hg1 hG2 hok⟩
    · have hlt := h
      refine v_end [(hb, _)] (outsA0 rfl) (by repeat (first | exact List.Sublist.refl _ | apply List.Sublist.cons | fail)) ?_
      rw [if_neg fun hh => hlt hh.2]
      exact ⟨_, rfl, _, _, _, rfl, hi, ha, hc⟩
  · refine v_enter Tryd.func105 rfl Tryd.ntmps105 rfl (fun B => ?_)
    repeat' (first | apply v_seq | apply v_region | apply v_nil | (apply v_box (zs := recL x.kind x.round x.node x.index x.cmd iv); (case hx => rfl); (case hz => rfl); (case hd => rfl); intro xb) | fail)
    refine d_start _ (by kernel_rfl) (by kernel_rfl) (fun _ he => he) ?_
    all_goals (first | (apply d_take 0; (case hi => rfl); (case hop => first | (apply PureOp.read; apply p_move <;> rfl)); (case hf => kernel_rfl); (case hr => kernel_rfl); (case hd => rfl)) | fail)
    all_goals (first | (apply d_take 1; (case hi => rfl); (case hop => first | (apply PureOp.read; apply p_nilCheck <;> rfl)); (case hf => kernel_rfl); (case hr => kernel_rfl); (case hd => rfl)) | fail)
    all_goals (first | (apply d_take 2; (case hi => rfl); (case hop => first | (apply PureOp.read; apply p_fieldAddrB <;> rfl) | fail); (case hf => kernel_rfl); (case hr => kernel_rfl); (case hd => rfl)) | fail)
    all_goals (first | (apply d_take 3; (case hi => rfl); (case hop => first | (apply PureOp.read; apply p_fieldAddrB <;> rfl) | fail); (case hf => kernel_rfl); (case hr => kernel_rfl); (case hd => rfl)) | fail)
    all_goals (first | (apply d_take 4; (case hi => rfl); (case hop => first   | (apply r_loadNo; (case hx => rfl); (case h => (repeat (fail))); (case hd => (repeat (fail))); (case hn => rfl)) | (apply r_load1; rfl; (apply Cell.own; (case h => (repeat (first | exact List.Mem.head _ | apply List.Mem.tail | fail))); rfl)) | (apply r_loadN; rfl; (apply CellsAt.own; (case h => (repeat (fail)))); rfl)); (case hf => kernel_rfl); (case hr => kernel_rfl); (case hd => rfl)) | fail)
    all_goals (first | (apply d_take 5; (case hi => rfl); (case hop => first | (apply PureOp.read; apply p_fieldAddrB <;> rfl) | fail); (case hf => kernel_rfl); (case hr => kernel_rfl); (case hd => rfl)) | fail)
    all_goals (first | (apply d_take 6; (case hi => rfl); (case hop => first   | (apply r_loadNo; (case hx => rfl); (case h => (repeat (fail))); (case hd => (repeat (fail))); (case hn => rfl)) | (apply r_load1; rfl; (apply Cell.own; (case h => (repeat (first | exact List.Mem.head _ | fail))); rfl)) | (apply r_loadN; rfl; (apply CellsAt.own; (case h => (repeat (fail)))); rfl)); (case hf => kernel_rfl); (case hr => kernel_rfl); (case hd => rfl)) | fail)
    refine d_fork 7 11 (by kernel_rfl) ?fk2a ?fk2b
    case' fk2a =>
      first | (apply x_exec 7; (case hi => rfl); (case hop => apply m_callFJ (hs := qf) <;> rfl); (case hd => rfl); rintro _ _ _ ⟨rfl, rfl, rfl⟩; refine ⟨(by intro e he; first | exact he | fail), ?_⟩) | fail
      all_goals (first | (apply d_take 8; (case hi => rfl); (case hop => first | (apply PureOp.read; apply p_move <;> rfl)); (case hf => kernel_rfl); (case hr => kernel_rfl); (case hd => rfl)) | fail)
      all_goals (first | (apply d_take 9; (case hi => rfl); (case hop => first | (apply PureOp.read; apply p_extract0 <;> rfl) | fail); (case hf => kernel_rfl); (case hr => kernel_rfl); (case hd => rfl)) | fail)
      all_goals (first | (apply d_take 10; (case hi => rfl); (case hop => first | (apply PureOp.read; apply p_extract1 <;> rfl) | fail); (case hf => kernel_rfl); (case hr => kernel_rfl); (case hd => rfl)) | fail)
      all_goals (first | (apply d_exec 11; (case hi => rfl); (case hr => kernel_rfl); (case hop => exact m_alloc rfl); (case hd => rfl); rintro _ _ _ ⟨eb, rfl, rfl, rfl⟩; refine ⟨(by intro e he; first | (simp at he; simp [he]) | fail), ?_⟩) | fail)
      all_goals (first | (apply d_store 12; (case hi => rfl); (case hr => kernel_rfl); (case hL => infer_instance); (case hp => rfl); (case hx => rfl); (case hc => rfl); (case hsz => rfl); (case h1 => rfl); (case hb => (repeat (first | exact List.Mem.head _ | fail))); (case hfit => first | exact Nat.le_of_ble_eq_true rfl | fail); (case hov => (first | ((repeat (first | with_reducible exact ov_nil | apply ov_cons | fail)); done) | fail)); (case hu => repeat (first | exact Upd.here _ _ | fail)); (case hν' => intro e he; first | (simp at he; simp [he]) | fail)) | fail)
      all_goals (first | (apply d_take 13; (case hi => rfl); (case hop => first | (apply PureOp.read; apply p_assign <;> rfl)); (case hf => kernel_rfl); (case hr => kernel_rfl); (case hd => rfl)) | fail)
      all_goals (apply d_done; (case hr => kernel_rfl))
    case' fk2b =>
      first | (apply x_exec 11; (case hi => rfl); (case hop => exact m_alloc rfl); (case hd => rfl); rintro _ _ _ ⟨eb, rfl, rfl, rfl⟩; refine ⟨(by intro e he; first | (simp at he; simp [he]) | fail), ?_⟩) | fail
      all_goals (first | (apply d_callJ 7 (hs := qf); (case hi => rfl); (case hr => kernel_rfl); (case ha => rfl); (case hd => rfl)) | fail)
      all_goals (first | (apply d_take 8; (case hi => rfl); (case hop => first | (apply PureOp.read; apply p_move <;> rfl)); (case hf => kernel_rfl); (case hr => kernel_rfl); (case hd => rfl)) | fail)
      all_goals (first | (apply d_take 9; (case hi => rfl); (case hop => first | (apply PureOp.read; apply p_extract0 <;> rfl) | fail); (case hf => kernel_rfl); (case hr => kernel_rfl); (case hd => rfl)) | fail)
      all_goals (first | (apply d_take 10; (case hi => rfl); (case hop => first | (apply PureOp.read; apply p_extract1 <;> rfl) | fail); (case hf => kernel_rfl); (case hr => kernel_rfl); (case hd => rfl)) | fail)
      all_goals (first | (apply d_store 12; (case hi => rfl); (case hr => kernel_rfl); (case hL => infer_instance); (case hp => rfl); (case hx => rfl); (case hc => rfl); (case hsz => rfl); (case h1 => rfl); (case hb => (repeat (first | exact List.Mem.head _ | fail))); (case hfit => first | exact Nat.le_of_ble_eq_true rfl | fail); (case hov => (first | ((repeat (first | with_reducible exact ov_nil | apply ov_cons | fail)); done) | fail)); (case hu => repeat (first | exact Upd.here _ _ | fail)); (case hν' => intro e he; first | (simp at he; simp [he]) | fail)) | fail)
      all_goals (first | (apply d_take 13; (case hi => rfl); (case hop => first | (apply PureOp.read; apply p_assign <;> rfl)); (case hf => kernel_rfl); (case hr => kernel_rfl); (case hd => rfl)) | fail)
      all_goals (apply d_done; (case hr => kernel_rfl))
    all_goals
      repeat' (first | apply v_seq | fail)
    all_goals
      refine d_start _ (by kernel_rfl) (by kernel_rfl) (fun _ he => he) ?_
      all_goals (first | (apply d_take 0; (case hi => rfl); (case hop => first | (apply PureOp.read; apply p_move <;> rfl)); (case hf => kernel_rfl); (case hr => kernel_rfl); (case hd => rfl)) | fail)
      all_goals (first | (apply d_take 1; (case hi => rfl); (case hop => first | (apply PureOp.read; apply p_not <;> rfl)); (case hf => kernel_rfl); (case hr => kernel_rfl); (case hd => rfl)) | fail)
      all_goals (first | (apply d_take 2; (case hi => rfl); (case hop => first | (apply PureOp.read; apply p_move <;> rfl)); (case hf => kernel_rfl); (case hr => kernel_rfl); (case hd => rfl)) | fail)
      all_goals (try (apply d_guardB 3; (case hi => rfl); (case hgd => rfl); (case h1 => rfl); (case h2 => first | rfl); all_goals (intro h; (try simp only [reduceCtorEq, dec_true, dec_false, decide_eq_true_eq, decide_eq_false_iff_not, Bool.not_eq_true', Bool.not_eq_false', Option.isNone_iff_eq_none, beq_true, beq_false, beq_iff_eq, beq_eq_false_iff_ne, ne_eq, decide_eq_decide, Bool.not_eq_true, Bool.not_eq_false, Decidable.not_not] at h); first | done | skip)))
      all_goals (first | (apply d_pass 3; (case hi => rfl); (case hg => rfl); (case hn => rfl); (case hf => kernel_rfl); (case hr => kernel_rfl); (case hd => rfl)) | fail)
      all_goals (try (apply d_guardB 4; (case hi => rfl); (case hgd => rfl); (case h1 => rfl); (case h2 => first | rfl); all_goals (intro h; (try simp only [reduceCtorEq, dec_true, dec_false, decide_eq_true_eq, decide_eq_false_iff_not, Bool.not_eq_true', Bool.not_eq_false', Option.isNone_iff_eq_none, beq_true, beq_false, beq_iff_eq, beq_eq_false_iff_ne, ne_eq, decide_eq_decide, Bool.not_eq_true, Bool.not_eq_false, Decidable.not_not] at h); first | done | skip)))
      all_goals (first | (apply d_pass 4; (case hi => rfl); (case hg => rfl); (case hn => rfl); (case hf => kernel_rfl); (case hr => kernel_rfl); (case hd => rfl)) | fail)
      all_goals (try (apply d_guardB 5; (case hi => rfl); (case hgd => rfl); (case h1 => rfl); (case h2 => first | rfl); all_goals (intro h; (try simp only [reduceCtorEq, dec_true, dec_false, decide_eq_true_eq, decide_eq_false_iff_not, Bool.not_eq_true', Bool.not_eq_false', Option.isNone_iff_eq_none, beq_true, beq_false, beq_iff_eq, beq_eq_false_iff_ne, ne_eq, decide_eq_decide, Bool.not_eq_true, Bool.not_eq_false, Decidable.not_not] at h); first | done | skip)))
      all_goals (first | (apply d_pass 5; (case hi => rfl); (case hg => rfl); (case hn => rfl); (case hf => kernel_rfl); (case hr => kernel_rfl); (case hd => rfl)) | fail)
      all_goals (try (apply d_guardB 6; (case hi => rfl); (case hgd => rfl); (case h1 => rfl); (case h2 => first | rfl); all_goals (intro h; (try simp only [reduceCtorEq, dec_true, dec_false, decide_eq_true_eq, decide_eq_false_iff_not, Bool.not_eq_true', Bool.not_eq_false', Option.isNone_iff_eq_none, beq_true, beq_false, beq_iff_eq, beq_eq_false_iff_ne, ne_eq, decide_eq_decide, Bool.not_eq_true, Bool.not_eq_false, Decidable.not_not] at h); first | done | skip)))
      all_goals (first | (apply d_pass 6; (case hi => rfl); (case hg => rfl); (case hn => rfl); (case hf => kernel_rfl); (case hr => kernel_rfl); (case hd => rfl)) | fail)
      all_goals (try (apply d_guardB 7; (case hi => rfl); (case hgd => rfl); (case h1 => rfl); (case h2 => first | rfl); all_goals (intro h; (try simp only [reduceCtorEq, dec_true, dec_false, decide_eq_true_eq, decide_eq_false_iff_not, Bool.not_eq_true', Bool.not_eq_false', Option.isNone_iff_eq_none, beq_true, beq_false, beq_iff_eq, beq_eq_false_iff_ne, ne_eq, decide_eq_decide, Bool.not_eq_true, Bool.not_eq_false, Decidable.not_not] at h); first | done | skip)))
      all_goals (first | (apply d_pass 7; (case hi => rfl); (case hg => rfl); (case hn => rfl); (case hf => kernel_rfl); (case hr => kernel_rfl); (case hd => rfl)) | fail)
      all_goals (try (apply d_guardB 8; (case hi => rfl); (case hgd => rfl); (case h1 => rfl); (case h2 => first | rfl); all_goals (intro h; (try simp only [reduceCtorEq, dec_true, dec_false, decide_eq_true_eq, decide_eq_false_iff_not, Bool.not_eq_true', Bool.not_eq_false', Option.isNone_iff_eq_none, beq_true, beq_false, beq_iff_eq, beq_eq_false_iff_ne, ne_eq, decide_eq_decide, Bool.not_eq_true, Bool.not_eq_false, Decidable.not_not] at h); first | done | skip)))
      all_goals (first | (apply d_pass 8; (case hi => rfl); (case hg => rfl); (case hn => rfl); (case hf => kernel_rfl); (case hr => kernel_rfl); (case hd => rfl)) | fail)
      all_goals (try (apply d_guardB 9; (case hi => rfl); (case hgd => rfl); (case h1 => rfl); (case h2 => first | rfl); all_goals (intro h; (try simp only [reduceCtorEq, dec_true, dec_false, decide_eq_true_eq, decide_eq_false_iff_not, Bool.not_eq_true', Bool.not_eq_false', Option.isNone_iff_eq_none, beq_true, beq_false, beq_iff_eq, beq_eq_false_iff_ne, ne_eq, decide_eq_decide, Bool.not_eq_true, Bool.not_eq_false, Decidable.not_not] at h); first | done | skip)))
      all_goals (first | (apply d_pass 9; (case hi => rfl); (case hg => rfl); (case hn => rfl); (case hf => kernel_rfl); (case hr => kernel_rfl); (case hd => rfl)) | fail)
      all_goals (try (apply d_guardB 10; (case hi => rfl); (case hgd => rfl); (case h1 => rfl); (case h2 => first | rfl); all_goals (intro h; (try simp only [reduceCtorEq, dec_true, dec_false, decide_eq_true_eq, decide_eq_false_iff_not, Bool.not_eq_true', Bool.not_eq_false', Option.isNone_iff_eq_none, beq_true, beq_false, beq_iff_eq, beq_eq_false_iff_ne, ne_eq, decide_eq_decide, Bool.not_eq_true, Bool.not_eq_false, Decidable.not_not] at h); first | done | skip)))
      all_goals (first | (apply d_pass 10; (case hi => rfl); (case hg => rfl); (case hn => rfl); (case hf => kernel_rfl); (case hr => kernel_rfl); (case hd => rfl)) | fail)
      all_goals (first | (apply d_take 11; (case hi => rfl); (case hop => first | (apply PureOp.read; apply p_pickF <;> rfl) | fail); (case hf => kernel_rfl); (case hr => kernel_rfl); (case hd => rfl)) | fail)
      all_goals (apply d_done; (case hr => kernel_rfl))
    all_goals
      repeat' (first | apply v_skip | (apply v_condF; (case hc => rfl)) | fail)
    all_goals
      (refine v_end [(hb, _)] (outsA0 rfl) (by repeat (first | exact List.Sublist.refl _ | apply List.Sublist.cons | fail)) ?_
       rw [if_neg (by simp)]
       exact ⟨_, rfl, _, _, _, rfl, hi, ha, hc⟩)
end Go.Proofs.YtnoiahlpmgbhfaaDoor
/-
  hard (layer 19), the sixth part: an image; any record.
-/
set_option linter.unusedSimpArgs false
set_option linter.unusedVariables false
namespace Go.Proofs.YtnoiahlpmgbhfaaDoor
open Go.Vx Go.ChangeShapes Go.WideShapes Go.ChangeAt Go.RowKit
noncomputable def takeH (h : Hd) (x : Rc) : Hd := if x.index ≤ h.base then h else { h with base := x.index, image := x.image, acc := h.acc.drop (placeN h.acc (x.index + 1)), cho := h.cho.drop (placeN h.cho (x.index + 1)) }
theorem take_s {G : GH} {H : Hd} {L : List Value} {x : Rc} {xv : Value} {n : Nat} (hb : Nat) (hh : HdV G H L) (g : Good n H) (hn : n ≤ 200) (hx : RcV G x xv) (him : x.image.length ≤ 40000) (hxi : 0 ≤ x.index ∧ x.index ≤ 4294967296) :
    Con Tryd.prog 106 #[.pointer (some ⟨hb, 0, none⟩), xv] G [(hb, hdO L)] (fun _ G' μ' => ∃ L', μ' = [(hb, hdO L')] ∧ HdV G' (takeH H x) L') := by
  obtain ⟨im, av, cv, rfl, hi, ha, hc⟩ := hh
  obtain ⟨A0, c0, rfl, -⟩ := id hi.openInt
  obtain ⟨A1, c1, rfl, -⟩ := id ha.open
  obtain ⟨A2, c2, rfl, -⟩ := id hc.open
  obtain ⟨iv, rfl, hxv⟩ := hx
  obtain ⟨A3, c3, rfl, -⟩ := id hxv.openInt
  have qc := bclone_s hxv (by omega)
  have hwf := hxv.openInt
  obtain ⟨_, _, -, -, -, -, -, hwx⟩ := hwf
  have hna := g.nacc
  have hnc := g.ncho
  unfold takeH
  generalize hivl : Value.slice A3 x.image.length c3 = iv at *
  refine v_enter Tryd.func106 rfl Tryd.ntmps106 rfl (fun B => ?_)
  repeat' (first | apply v_seq | apply v_region | apply v_nil | (apply v_box (zs := recL x.kind x.round x.node x.index x.cmd iv); (case hx => rfl); (case hz => rfl); (case hd => rfl); intro xb) | fail)
  refine d_start _ (by kernel_rfl) (by kernel_rfl) (fun _ he => he) ?_
  all_goals (first | (apply d_take 0; (case hi => rfl); (case hop => first | (apply PureOp.read; apply p_fieldAddrB <;> rfl) | fail); (case hf => kernel_rfl); (case hr => kernel_rfl); (case hd => rfl)) | fail)
  all_goals (first | (apply d_take 1; (case hi => rfl); (case hop => first   | (apply r_loadNo; (case hx => rfl); (case h => (repeat (fail))); (case hd => (repeat (fail))); (case hn => rfl)) | (apply r_load1; rfl; (apply Cell.own; (case h => (repeat (first | exact List.Mem.head _ | fail))); rfl)) | (apply r_loadN; rfl; (apply CellsAt.own; (case h => (repeat (fail)))); rfl)); (case hf => kernel_rfl); (case hr => kernel_rfl); (case hd => rfl)) | fail)
  all_goals (first | (apply d_take 2; (case hi => rfl); (case hop => first | (apply PureOp.read; apply p_move <;> rfl)); (case hf => kernel_rfl); (case hr => kernel_rfl); (case hd => rfl)) | fail)
  all_goals (first | (apply d_take 3; (case hi => rfl); (case hop => first | (apply PureOp.read; apply p_nilCheck <;> rfl)); (case hf => kernel_rfl); (case hr => kernel_rfl); (case hd => rfl)) | fail)
  all_goals (first | (apply d_take 4; (case hi => rfl); (case hop => first | (apply PureOp.read; apply p_fieldAddrB <;> rfl) | fail); (case hf => kernel_rfl); (case hr => kernel_rfl); (case hd => rfl)) | fail)
  all_goals (first | (apply d_take 5; (case hi => rfl); (case hop => first | (apply PureOp.read; apply p_fieldAddrB <;> rfl) | fail); (case hf => kernel_rfl); (case hr => kernel_rfl); (case hd => rfl)) | fail)
  all_goals (first | (apply d_take 6; (case hi => rfl); (case hop => first   | (apply r_loadNo; (case hx => rfl); (case h => (repeat (fail))); (case hd => (repeat (fail))); (case hn => rfl)) | (apply r_load1; rfl; (apply Cell.own; (case h => (repeat (first | exact List.Mem.head _ | apply List.Mem.tail | fail))); rfl)) | (apply r_loadN; rfl; (apply CellsAt.own; (case h => (repeat (fail)))); rfl)); (case hf => kernel_rfl); (case hr => kernel_rfl); (case hd => rfl)) | fail)
  all_goals (first | (apply d_take 7; (case hi => rfl); (case hop => first | (apply PureOp.read; apply p_le <;> rfl)); (case hf => kernel_rfl); (case hr => kernel_rfl); (case hd => rfl)) | fail)
  all_goals (apply d_done; (case hr => kernel_rfl))
  repeat' (first | apply v_seq | apply v_skip | (apply v_cond; (case hc => rfl); all_goals (intro h; (try simp only [reduceCtorEq, dec_true, dec_false, decide_eq_true_eq, decide_eq_false_iff_not, Bool.not_eq_true', Bool.not_eq_false', Option.isNone_iff_eq_none, beq_true, beq_false, beq_iff_eq, beq_eq_false_iff_ne, ne_eq, decide_eq_decide, Bool.not_eq_true, Bool.not_eq_false, Decidable.not_not] at h); first | skip)) | fail)
  · have hle := h
    refine v_ret [(hb, _)] (outsA0 rfl) (by repeat (first | exact List.Sublist.refl _ | apply List.Sublist.cons | fail)) ?_
    rw [if_pos hle]
    exact ⟨_, rfl, _, _, _, rfl, hi, ha, hc⟩
  · have hgt := h
    rw [if_neg hgt]
    subst hivl
    refine d_start [(xb, .cells (recL x.kind x.round x.node x.index x.cmd (.slice A3 x.image.length c3)).toArray 29 (0, 0))] (by kernel_rfl) (by kernel_rfl) (by intro e he; first | (simp at he; simp [he]) | fail) ?_
    all_goals (first | (apply d_take 0; (case hi => rfl); (case hop => first | (apply PureOp.read; apply p_move <;> rfl)); (case hf => kernel_rfl); (case hr => kernel_rfl); (case hd => rfl)) | fail)
    all_goals (first | (apply d_take 1; (case hi => rfl); (case hop => first | (apply PureOp.read; apply p_move <;> rfl)); (case hf => kernel_rfl); (case hr => kernel_rfl); (case hd => rfl)) | fail)
    all_goals (first | (apply d_take 2; (case hi => rfl); (case hop => first | (apply PureOp.read; apply p_fieldAddrB <;> rfl) | fail); (case hf => kernel_rfl); (case hr => kernel_rfl); (case hd => rfl)) | fail)
    all_goals (first | (apply d_take 3; (case hi => rfl); (case hop => first   | (apply r_loadNo; (case hx => rfl); (case h => (repeat (fail))); (case hd => (repeat (fail))); (case hn => rfl)) | (apply r_load1; rfl; (apply Cell.own; (case h => (repeat (first | exact List.Mem.head _ | fail))); rfl)) | (apply r_loadN; rfl; (apply CellsAt.own; (case h => (repeat (fail)))); rfl)); (case hf => kernel_rfl); (case hr => kernel_rfl); (case hd => rfl)) | fail)
    all_goals (first | (apply d_take 4; (case hi => rfl); (case hop => first | (apply PureOp.read; apply p_fieldAddrB <;> rfl) | fail); (case hf => kernel_rfl); (case hr => kernel_rfl); (case hd => rfl)) | fail)
    all_goals (first | (apply d_take 5; (case hi => rfl); (case hop => first   | (apply r_loadNo; (case hx => rfl); (case h => (repeat (fail))); (case hd => (repeat (fail))); (case hn => rfl)) | (apply r_load1; rfl; (apply Cell.own; (case h => (repeat (first | exact List.Mem.head _ | fail))); rfl)) | (apply r_loadN; rfl; (apply CellsAt.own; (case h => (repeat (fail)))); rfl)); (case hf => kernel_rfl); (case hr => kernel_rfl); (case hd => rfl)) | fail)
    all_goals (first | ((apply d_call 6 (hs := qc); (case hi => rfl); (case hr => kernel_rfl);  (case ha => rfl); (case hp => exact List.Perm.refl _); (case hd => rfl); (case hν' => intro e he; simp at he; simp [he]); rintro r1 G1 ν1 - ⟨rfl, hg1⟩; obtain ⟨A4, c4, rfl, -, -⟩ := hg1.shape)) | fail)
    all_goals (first | (apply d_take 7; (case hi => rfl); (case hop => first | (apply PureOp.read; apply p_nilCheck <;> rfl)); (case hf => kernel_rfl); (case hr => kernel_rfl); (case hd => rfl)) | fail)
    all_goals (first | (apply d_take 8; (case hi => rfl); (case hop => first | (apply PureOp.read; apply p_fieldAddrB <;> rfl) | fail); (case hf => kernel_rfl); (case hr => kernel_rfl); (case hd => rfl)) | fail)
    all_goals (first | (apply d_take 9; (case hi => rfl); (case hop => first | (apply PureOp.read; apply p_fieldAddrB <;> rfl) | fail); (case hf => kernel_rfl); (case hr => kernel_rfl); (case hd => rfl)) | fail)
    all_goals (first | (apply d_store 10; (case hi => rfl); (case hr => kernel_rfl); (case hL => infer_instance); (case hp => rfl); (case hx => rfl); (case hc => rfl); (case hsz => rfl); (case h1 => rfl); (case hb => (repeat (first | exact List.Mem.head _ | apply List.Mem.tail | apply List.mem_append_right))); (case hfit => first | exact Nat.le_of_ble_eq_true rfl | fail); (case hov => (first | ((repeat (first | with_reducible exact ov_nil | apply ov_cons | fail)); done) | fail)); (case hu => repeat (first | exact Upd.here _ _ | apply Upd.there | apply Upd.app)); (case hν' => intro e he; first | (simp at he; simp [he]) | fail)) | fail)
    all_goals (first | (apply d_take 11; (case hi => rfl); (case hop => first | (apply PureOp.read; apply p_nilCheck <;> rfl)); (case hf => kernel_rfl); (case hr => kernel_rfl); (case hd => rfl)) | fail)
    all_goals (first | (apply d_take 12; (case hi => rfl); (case hop => first | (apply PureOp.read; apply p_fieldAddrB <;> rfl) | fail); (case hf => kernel_rfl); (case hr => kernel_rfl); (case hd => rfl)) | fail)
    all_goals (first | (apply d_take 13; (case hi => rfl); (case hop => first | (apply PureOp.read; apply p_fieldAddrB <;> rfl) | fail); (case hf => kernel_rfl); (case hr => kernel_rfl); (case hd => rfl)) | fail)
    all_goals (first | (apply d_store 14; (case hi => rfl); (case hr => kernel_rfl); (case hL => infer_instance); (case hp => rfl); (case hx => rfl); (case hc => rfl); (case hsz => rfl); (case h1 => rfl); (case hb => (repeat (first | exact List.Mem.head _ | apply List.Mem.tail | apply List.mem_append_right))); (case hfit => first | exact Nat.le_of_ble_eq_true rfl | fail); (case hov => (first | ((repeat (first | with_reducible exact ov_nil | apply ov_cons | fail)); done) | fail)); (case hu => repeat (first | exact Upd.here _ _ | apply Upd.there | apply Upd.app)); (case hν' => intro e he; first | (simp at he; simp [he]) | fail)) | fail)
    all_goals (apply d_done; (case hr => kernel_rfl))
    repeat' (first | apply v_seq | fail)
    refine v_frz ν1 (by repeat (first | exact PickA.here _ | fail)) ?_
    intro G2 hle2 hG2
    have hi2 := hg1.ints hG2 hwx
    have ha2 := esle ha hle2
    have qa := from_s (x.index + 1) ha2 g.racc (by omega)
    refine d_start [(xb, .cells (recL x.kind x.round x.node x.index x.cmd (.slice A3 x.image.length c3)).toArray 29 (0, 0))] (by kernel_rfl) (by kernel_rfl) (by intro e he; first | (simp at he; simp [he]) | fail) ?_
    all_goals (first | (apply d_take 0; (case hi => rfl); (case hop => first | (apply PureOp.read; apply p_move <;> rfl)); (case hf => kernel_rfl); (case hr => kernel_rfl); (case hd => rfl)) | fail)
    all_goals (first | (apply d_take 1; (case hi => rfl); (case hop => first | (apply PureOp.read; apply p_move <;> rfl)); (case hf => kernel_rfl); (case hr => kernel_rfl); (case hd => rfl)) | fail)
    all_goals (first | (apply d_take 2; (case hi => rfl); (case hop => first | (apply PureOp.read; apply p_nilCheck <;> rfl)); (case hf => kernel_rfl); (case hr => kernel_rfl); (case hd => rfl)) | fail)
    all_goals (first | (apply d_take 3; (case hi => rfl); (case hop => first | (apply PureOp.read; apply p_fieldAddrB <;> rfl) | fail); (case hf => kernel_rfl); (case hr => kernel_rfl); (case hd => rfl)) | fail)
    all_goals (first | (apply d_take 4; (case hi => rfl); (case hop => first | (apply PureOp.read; apply p_fieldAddrB <;> rfl) | fail); (case hf => kernel_rfl); (case hr => kernel_rfl); (case hd => rfl)) | fail)
    all_goals (first | (apply d_take 6; (case hi => rfl); (case hop => first | (apply PureOp.read; apply p_fieldAddrB <;> rfl) | fail); (case hf => kernel_rfl); (case hr => kernel_rfl); (case hd => rfl)) | fail)
    all_goals (first | (apply d_take 7; (case hi => rfl); (case hop => first   | (apply r_loadNo; (case hx => rfl); (case h => (repeat (fail))); (case hd => (repeat (fail))); (case hn => rfl)) | (apply r_load1; rfl; (apply Cell.own; (case h => (repeat (first | exact List.Mem.head _ | fail))); rfl)) | (apply r_loadN; rfl; (apply CellsAt.own; (case h => (repeat (fail)))); rfl)); (case hf => kernel_rfl); (case hr => kernel_rfl); (case hd => rfl)) | fail)
    all_goals (first | (apply d_take 8; (case hi => rfl); (case hop => first | (apply PureOp.read; apply p_add; (case hx => rfl); (case hy => rfl); (case h => omega))); (case hf => kernel_rfl); (case hr => kernel_rfl); (case hd => rfl)) | fail)
    all_goals (first | (apply d_keep 5 (hop := ReadOp.move ?hop); (case hi => rfl); (case hr => kernel_rfl); (case hop => (apply r_load1; rfl; (apply Cell.own; (case h => repeat (first | exact List.Mem.head _ | apply List.Mem.tail | fail)); rfl))); (case hd => rfl)) | fail)
    all_goals (first | ((apply d_call 9 (hs := qa); (case hi => rfl); (case hr => kernel_rfl);  (case ha => rfl); (case hp => exact List.Perm.refl _); (case hd => rfl); (case hν' => intro e he; simp at he; simp [he]); rintro r1 G1 ν5 - ⟨rfl, hg5⟩; obtain ⟨A5, c5, rfl, -, -⟩ := hg5.shape)) | fail)
    all_goals (first | (apply d_take 10; (case hi => rfl); (case hop => first | (apply PureOp.read; apply p_nilCheck <;> rfl)); (case hf => kernel_rfl); (case hr => kernel_rfl); (case hd => rfl)) | fail)
    all_goals (first | (apply d_take 11; (case hi => rfl); (case hop => first | (apply PureOp.read; apply p_fieldAddrB <;> rfl) | fail); (case hf => kernel_rfl); (case hr => kernel_rfl); (case hd => rfl)) | fail)
    all_goals (first | (apply d_take 12; (case hi => rfl); (case hop => first | (apply PureOp.read; apply p_fieldAddrB <;> rfl) | fail); (case hf => kernel_rfl); (case hr => kernel_rfl); (case hd => rfl)) | fail)
    all_goals (first | (apply d_store 13; (case hi => rfl); (case hr => kernel_rfl); (case hL => infer_instance); (case hp => rfl); (case hx => rfl); (case hc => rfl); (case hsz => rfl); (case h1 => rfl); (case hb => (repeat (first | exact List.Mem.head _ | apply List.Mem.tail | apply List.mem_append_right))); (case hfit => first | exact Nat.le_of_ble_eq_true rfl | fail); (case hov => (first | ((repeat (first | with_reducible exact ov_nil | apply ov_cons | fail)); done) | fail)); (case hu => repeat (first | exact Upd.here _ _ | apply Upd.there | apply Upd.app)); (case hν' => intro e he; first | (simp at he; simp [he]) | fail)) | fail)
    all_goals (apply d_done; (case hr => kernel_rfl))
    repeat' (fail)
    refine v_frz ν5 (by repeat (first | exact PickA.here _ | fail)) ?_
    intro G4 hle4 hG4
    have hc4 := esle (esle hc hle2) hle4
    have hi4 := hi2.mono hle4
    have ha4 := es_of_grow hg5 hG4 (fun y hy => by
      have := (g.acc y (List.mem_of_mem_drop hy))
      exact this.2.1)
    have qc := from_s (x.index + 1) hc4 g.rcho (by omega)
    refine d_start [(xb, .cells (recL x.kind x.round x.node x.index x.cmd (.slice A3 x.image.length c3)).toArray 29 (0, 0))] (by kernel_rfl) (by kernel_rfl) (by intro e he; first | (simp at he; simp [he]) | fail) ?_
    all_goals (first | (apply d_take 0; (case hi => rfl); (case hop => first | (apply PureOp.read; apply p_move <;> rfl)); (case hf => kernel_rfl); (case hr => kernel_rfl); (case hd => rfl)) | fail)
    all_goals (first | (apply d_take 1; (case hi => rfl); (case hop => first | (apply PureOp.read; apply p_move <;> rfl)); (case hf => kernel_rfl); (case hr => kernel_rfl); (case hd => rfl)) | fail)
    all_goals (first | (apply d_take 2; (case hi => rfl); (case hop => first | (apply PureOp.read; apply p_nilCheck <;> rfl)); (case hf => kernel_rfl); (case hr => kernel_rfl); (case hd => rfl)) | fail)
    all_goals (first | (apply d_take 3; (case hi => rfl); (case hop => first | (apply PureOp.read; apply p_fieldAddrB <;> rfl) | fail); (case hf => kernel_rfl); (case hr => kernel_rfl); (case hd => rfl)) | fail)
    all_goals (first | (apply d_take 4; (case hi => rfl); (case hop => first | (apply PureOp.read; apply p_fieldAddrB <;> rfl) | fail); (case hf => kernel_rfl); (case hr => kernel_rfl); (case hd => rfl)) | fail)
    all_goals (first | (apply d_take 6; (case hi => rfl); (case hop => first | (apply PureOp.read; apply p_fieldAddrB <;> rfl) | fail); (case hf => kernel_rfl); (case hr => kernel_rfl); (case hd => rfl)) | fail)
    all_goals (first | (apply d_take 7; (case hi => rfl); (case hop => first   | (apply r_loadNo; (case hx => rfl); (case h => (repeat (fail))); (case hd => (repeat (fail))); (case hn => rfl)) | (apply r_load1; rfl; (apply Cell.own; (case h => (repeat (first | exact List.Mem.head _ | fail))); rfl)) | (apply r_loadN; rfl; (apply CellsAt.own; (case h => (repeat (fail)))); rfl)); (case hf => kernel_rfl); (case hr => kernel_rfl); (case hd => rfl)) | fail)
    all_goals (first | (apply d_take 8; (case hi => rfl); (case hop => first | (apply PureOp.read; apply p_add; (case hx => rfl); (case hy => rfl); (case h => omega))); (case hf => kernel_rfl); (case hr => kernel_rfl); (case hd => rfl)) | fail)
    all_goals (first | (apply d_keep 5 (hop := ReadOp.move ?hop); (case hi => rfl); (case hr => kernel_rfl); (case hop => (apply r_load1; rfl; (apply Cell.own; (case h => repeat (first | exact List.Mem.head _ | apply List.Mem.tail | fail)); rfl))); (case hd => rfl)) | fail)
    all_goals (first | ((apply d_call 9 (hs := qc); (case hi => rfl); (case hr => kernel_rfl);  (case ha => rfl); (case hp => exact List.Perm.refl _); (case hd => rfl); (case hν' => intro e he; simp at he; simp [he]); rintro r1 G1 ν6 - ⟨rfl, hg6⟩; obtain ⟨A6, c6, rfl, -, -⟩ := hg6.shape)) | fail)
    all_goals (first | (apply d_take 10; (case hi => rfl); (case hop => first | (apply PureOp.read; apply p_nilCheck <;> rfl)); (case hf => kernel_rfl); (case hr => kernel_rfl); (case hd => rfl)) | fail)
    all_goals (first | (apply d_take 11; (case hi => rfl); (case hop => first | (apply PureOp.read; apply p_fieldAddrB <;> rfl) | fail); (case hf => kernel_rfl); (case hr => kernel_rfl); (case hd => rfl)) | fail)
    all_goals (first | (apply d_take 12; (case hi => rfl); (case hop => first | (apply PureOp.read; apply p_fieldAddrB <;> rfl) | fail); (case hf => kernel_rfl); (case hr => kernel_rfl); (case hd => rfl)) | fail)
    all_goals (first | (apply d_store 13; (case hi => rfl); (case hr => kernel_rfl); (case hL => infer_instance); (case hp => rfl); (case hx => rfl); (case hc => rfl); (case hsz => rfl); (case h1 => rfl); (case hb => (repeat (first | exact List.Mem.head _ | apply List.Mem.tail | apply List.mem_append_right))); (case hfit => first | exact Nat.le_of_ble_eq_true rfl | fail); (case hov => (first | ((repeat (first | with_reducible exact ov_nil | apply ov_cons | fail)); done) | fail)); (case hu => repeat (first | exact Upd.here _ _ | apply Upd.there | apply Upd.app)); (case hν' => intro e he; first | (simp at he; simp [he]) | fail)) | fail)
    all_goals (apply d_done; (case hr => kernel_rfl))
    repeat' (fail)
    refine v_frz ν6 (by repeat (first | exact PickA.here _ | fail)) ?_
    intro G6 hle6 hG6
    have hc6 := es_of_grow hg6 hG6 (fun y hy => by
      have := (g.cho y (List.mem_of_mem_drop hy))
      exact this.2.1)
    refine v_end [(hb, _)] (outsA0 rfl) (by repeat (first | exact List.Sublist.refl _ | apply List.Sublist.cons | fail)) ?_
    exact ⟨_, rfl, _, _, _, rfl, hi4.mono hle6, esle ha4 hle6, hc6⟩
end Go.Proofs.YtnoiahlpmgbhfaaDoor
/-
  hard (layer 19), the seventh part: any record; any records.
-/
set_option linter.unusedSimpArgs false
set_option linter.unusedVariables false
namespace Go.Proofs.YtnoiahlpmgbhfaaDoor
open Go.Vx Go.ChangeShapes Go.WideShapes Go.ChangeAt Go.RowKit
theorem chg_eq (h : Hd) (x : Rc) : chg h x = if x.kind = 1 then h.prom x else if x.kind = 2 then accH h x else if x.kind = 3 then choH h x else takeH h x := rfl
theorem entOf_ok {x : Rc} (hx : chkI x = 0) (hc : x.cmd.ok) : (entOf x).ok ∧ (⟨x.index, 0, 0, x.cmd⟩ : Ent).ok ∧ 0 ≤ x.index ∧ x.index ≤ 4294967296 ∧ x.image.length ≤ 32768 := by
  have h0 : recI x.kind x.round x.node x.index x.cmd x.image.length = 0 := hx
  obtain ⟨hk, hr, hi, hcc, ho⟩ := rec0 h0
  obtain ⟨hfit, hsm, him, hsz⟩ := fits0 h0
  unfold ranP mayP at hr
  have hr0 : 0 ≤ x.round ∧ x.round ≤ 4294967296 := by unfold othP at ho; omega
  have hn0 : 0 ≤ x.node ∧ x.node ≤ 9 := by unfold othP at ho; omega
  have hi0 : 0 ≤ x.index ∧ x.index ≤ 4294967296 := by unfold othP at ho; omega
  exact ⟨⟨wf64 (n := x.index) (by omega), wf64 (n := x.round) (by omega), wf64 (n := x.node) (by omega), hc⟩, ⟨wf64 (n := x.index) (by omega), wf64 (n := 0) (by omega), wf64 (n := 0) (by omega), hc⟩, hi0.1, hi0.2, him⟩
theorem change_s {G : GH} {H : Hd} {L : List Value} {x : Rc} {xv : Value} {n : Nat} (hb : Nat) (hh : HdV G H L) (g : Good n H) (hn : n ≤ 200) (hx : RcV G x xv) (hv : chkI x = 0) (hc : x.cmd.ok) :
    Con Tryd.prog 62 #[.pointer (some ⟨hb, 0, none⟩), xv] G [(hb, hdO L)] (fun _ G' μ' => ∃ L', μ' = [(hb, hdO L')] ∧ HdV G' (chg H x) L') := by
  obtain ⟨e1, e2, e3, e4, e5⟩ := entOf_ok hv hc
  have hk := (rec0 (show recI x.kind x.round x.node x.index x.cmd x.image.length = 0 from hv)).1
  have q2 := accept_s hb hh g hn hx (withL_ok (fun e he => (g.acc e he).2.1) e1)
  have q3 := choose_s hb hh g hn hx (withL_ok (fun e he => (g.cho e he).2.1) e2)
  have q4 := take_s hb hh g hn hx (by omega) ⟨e3, e4⟩
  have hh' := hh
  obtain ⟨im, av, cv, rfl, hi, ha, hcv⟩ := hh
  have q1 := promise_s G hb H.pr H.pn H.base x.round x.node im av cv
  obtain ⟨iv, rfl, hxv⟩ := hx
  rw [chg_eq]
  refine v_enter Tryd.func62 rfl Tryd.ntmps62 rfl (fun B => ?_)
  obtain k | k | k | k : x.kind = 1 ∨ x.kind = 2 ∨ x.kind = 3 ∨ x.kind = 4 := by omega
  · rw [if_pos k, prom_max]
    repeat' (first | apply v_seq | apply v_region | apply v_nil | apply v_block | (apply v_pure; (case hop => first | (apply p_move <;> rfl) | (apply p_eq <;> rfl) | (apply p_assign <;> rfl) | (apply p_fieldAddrB <;> rfl) | fail); (case hd => rfl)) | (apply v_cond; (case hc => rfl); all_goals (intro h; (try simp only [reduceCtorEq, dec_true, dec_false, decide_eq_true_eq, decide_eq_false_iff_not, Bool.not_eq_true', Bool.not_eq_false', Option.isNone_iff_eq_none, beq_true, beq_false, beq_iff_eq, beq_eq_false_iff_ne, ne_eq, decide_eq_decide, Bool.not_eq_true, Bool.not_eq_false, Decidable.not_not] at h); first | (exfalso; omega) | skip)) | (apply v_box (zs := recL x.kind x.round x.node x.index x.cmd iv); (case hx => rfl); (case hz => rfl); (case hd => rfl); intro xb) | (apply v_read; (case hop => first | (apply r_loadNo; (case hx => rfl); (case h => (repeat (first | exact List.Mem.head _ | fail))); (case hd => (repeat (first | with_reducible exact dt_nil | apply dt_here | fail))); (case hn => rfl)) | (apply r_load1; rfl; (apply Cell.own; (case h => (repeat (first | exact List.Mem.head _ | fail))); rfl)) | fail); (case hd => rfl)) | fail)
    refine v_call (μ1 := [(hb, _)]) (μ2 := _) rfl q1 (PickA.perm (by repeat (first | exact PickA.last | apply PickA.cons | fail))) rfl ?_
    rintro _ _ _ - ⟨rfl, rfl⟩
    repeat' (first | apply v_nil | apply v_blk | fail)
    refine v_end [(hb, _)] (outsA0 rfl) (by repeat (first | exact List.nil_sublist _ | apply List.Sublist.cons_cons | fail)) ?_
    exact ⟨_, rfl, _, _, _, rfl, hi, ha, hcv⟩
  · rw [if_neg (by omega), if_pos k]
    repeat' (first | apply v_seq | apply v_region | apply v_nil | apply v_block | (apply v_pure; (case hop => first | (apply p_move <;> rfl) | (apply p_eq <;> rfl) | (apply p_assign <;> rfl) | (apply p_fieldAddrB <;> rfl) | fail); (case hd => rfl)) | (apply v_cond; (case hc => rfl); all_goals (intro h; (try simp only [reduceCtorEq, dec_true, dec_false, decide_eq_true_eq, decide_eq_false_iff_not, Bool.not_eq_true', Bool.not_eq_false', Option.isNone_iff_eq_none, beq_true, beq_false, beq_iff_eq, beq_eq_false_iff_ne, ne_eq, decide_eq_decide, Bool.not_eq_true, Bool.not_eq_false, Decidable.not_not] at h); first | (exfalso; omega) | skip)) | (apply v_box (zs := recL x.kind x.round x.node x.index x.cmd iv); (case hx => rfl); (case hz => rfl); (case hd => rfl); intro xb) | (apply v_read; (case hop => first | (apply r_loadNo; (case hx => rfl); (case h => (repeat (first | exact List.Mem.head _ | fail))); (case hd => (repeat (first | with_reducible exact dt_nil | apply dt_here | fail))); (case hn => rfl)) | (apply r_load1; rfl; (apply Cell.own; (case h => (repeat (first | exact List.Mem.head _ | fail))); rfl)) | fail); (case hd => rfl)) | fail)
    refine v_call (μ1 := [(hb, _)]) (μ2 := _) rfl q2 (PickA.perm (by repeat (first | exact PickA.last | apply PickA.cons | fail))) rfl ?_
    rintro _ G1 _ - ⟨L', rfl, h'⟩
    repeat' (first | apply v_nil | apply v_blk | fail)
    refine v_end [(hb, _)] (outsA0 rfl) (by repeat (first | exact List.nil_sublist _ | apply List.Sublist.cons_cons | fail)) ?_
    exact ⟨_, rfl, h'⟩
  · rw [if_neg (by omega), if_neg (by omega), if_pos k]
    repeat' (first | apply v_seq | apply v_region | apply v_nil | apply v_block | (apply v_pure; (case hop => first | (apply p_move <;> rfl) | (apply p_eq <;> rfl) | (apply p_assign <;> rfl) | (apply p_fieldAddrB <;> rfl) | fail); (case hd => rfl)) | (apply v_cond; (case hc => rfl); all_goals (intro h; (try simp only [reduceCtorEq, dec_true, dec_false, decide_eq_true_eq, decide_eq_false_iff_not, Bool.not_eq_true', Bool.not_eq_false', Option.isNone_iff_eq_none, beq_true, beq_false, beq_iff_eq, beq_eq_false_iff_ne, ne_eq, decide_eq_decide, Bool.not_eq_true, Bool.not_eq_false, Decidable.not_not] at h); first | (exfalso; omega) | skip)) | (apply v_box (zs := recL x.kind x.round x.node x.index x.cmd iv); (case hx => rfl); (case hz => rfl); (case hd => rfl); intro xb) | (apply v_read; (case hop => first | (apply r_loadNo; (case hx => rfl); (case h => (repeat (first | exact List.Mem.head _ | fail))); (case hd => (repeat (first | with_reducible exact dt_nil | apply dt_here | fail))); (case hn => rfl)) | (apply r_load1; rfl; (apply Cell.own; (case h => (repeat (first | exact List.Mem.head _ | fail))); rfl)) | fail); (case hd => rfl)) | fail)
    refine v_call (μ1 := [(hb, _)]) (μ2 := _) rfl q3 (PickA.perm (by repeat (first | exact PickA.last | apply PickA.cons | fail))) rfl ?_
    rintro _ G1 _ - ⟨L', rfl, h'⟩
    repeat' (first | apply v_nil | apply v_blk | fail)
    refine v_end [(hb, _)] (outsA0 rfl) (by repeat (first | exact List.nil_sublist _ | apply List.Sublist.cons_cons | fail)) ?_
    exact ⟨_, rfl, h'⟩
  · rw [if_neg (by omega), if_neg (by omega), if_neg (by omega)]
    repeat' (first | apply v_seq | apply v_region | apply v_nil | apply v_block | (apply v_pure; (case hop => first | (apply p_move <;> rfl) | (apply p_eq <;> rfl) | (apply p_assign <;> rfl) | (apply p_fieldAddrB <;> rfl) | fail); (case hd => rfl)) | (apply v_cond; (case hc => rfl); all_goals (intro h; (try simp only [reduceCtorEq, dec_true, dec_false, decide_eq_true_eq, decide_eq_false_iff_not, Bool.not_eq_true', Bool.not_eq_false', Option.isNone_iff_eq_none, beq_true, beq_false, beq_iff_eq, beq_eq_false_iff_ne, ne_eq, decide_eq_decide, Bool.not_eq_true, Bool.not_eq_false, Decidable.not_not] at h); first | (exfalso; omega) | skip)) | (apply v_box (zs := recL x.kind x.round x.node x.index x.cmd iv); (case hx => rfl); (case hz => rfl); (case hd => rfl); intro xb) | (apply v_read; (case hop => first | (apply r_loadNo; (case hx => rfl); (case h => (repeat (first | exact List.Mem.head _ | fail))); (case hd => (repeat (first | with_reducible exact dt_nil | apply dt_here | fail))); (case hn => rfl)) | (apply r_load1; rfl; (apply Cell.own; (case h => (repeat (first | exact List.Mem.head _ | fail))); rfl)) | fail); (case hd => rfl)) | fail)
    refine v_call (μ1 := [(hb, _)]) (μ2 := _) rfl q4 (PickA.perm (by repeat (first | exact PickA.last | apply PickA.cons | fail))) rfl ?_
    rintro _ G1 _ - ⟨L', rfl, h'⟩
    repeat' (first | apply v_nil | apply v_blk | fail)
    refine v_end [(hb, _)] (outsA0 rfl) (by repeat (first | exact List.nil_sublist _ | apply List.Sublist.cons_cons | fail)) ?_
    exact ⟨_, rfl, h'⟩
/-! ### Records in cells -/
def RcR (G : GH) (x : Rc) (cs : List Value) : Prop := ∃ iv, cs = recL x.kind x.round x.node x.index x.cmd iv ∧ x.cmd.ok ∧ x.small ∧ Sl G 1 (IntR .u8) iv x.image
theorem RcR.le {G G' : GH} (h : GH.le G G') {x : Rc} {cs : List Value} (hc : RcR G x cs) : RcR G' x cs := let ⟨iv, h1, h2, h3, h4⟩ := hc; ⟨iv, h1, h2, h3, h4.mono h⟩
abbrev Rs (G : GH) (v : Value) (l : List Rc) : Prop := Sl G 12 (RcR G) v l
theorem Rs.le' {G G' : GH} (h : GH.le G G') {v : Value} {l : List Rc} (hs : Rs G v l) : Rs G' v l := Sl.le hs h fun _ _ => RcR.le h
theorem rsOpen {G : GH} {v : Value} {l : List Rc} (h : Rs G v l) : ∃ A c, ∃ (iv : Nat → Value), v = .slice A l.length c ∧ l.length ≤ c ∧ c ≤ maxLen ∧ (0 < l.length → A.isSome = true) ∧
    (∀ i (h : i < l.length), CellsG G ((adr A).add (i * 12)) (recL l[i].kind l[i].round l[i].node l[i].index l[i].cmd (iv i))) ∧ (∀ i (h : i < l.length), Sl G 1 (IntR .u8) (iv i) l[i].image) ∧ (∀ x ∈ l, x.cmd.ok ∧ x.small) := by
  obtain ⟨A, c, rfl, h1, h2, h3, h4⟩ := h.open
  have key : ∀ i, ∃ m : Value, ∀ (h : i < l.length), CellsG G ((adr A).add (i * 12)) (recL l[i].kind l[i].round l[i].node l[i].index l[i].cmd m) ∧ Sl G 1 (IntR .u8) m l[i].image ∧ (l[i].cmd.ok ∧ l[i].small) := fun i => by
    by_cases hi : i < l.length
    · obtain ⟨cs, _, ⟨iv, rfl, h6, h7, h8⟩, h5⟩ := h4 i _ (List.getElem?_eq_getElem hi)
      exact ⟨iv, fun _ => ⟨h5, h8, h6, h7⟩⟩
    · exact ⟨.slice none 0 0, fun h => absurd h hi⟩
  have hk := fun i => Classical.choose_spec (key i)
  refine ⟨A, c, fun i => Classical.choose (key i), rfl, h1, h2, h3, fun i hi => (hk i hi).1, fun i hi => (hk i hi).2.1, fun x hx => ?_⟩
  obtain ⟨i, hi, rfl⟩ := List.getElem_of_mem hx
  exact (hk i hi).2.2
end Go.Proofs.YtnoiahlpmgbhfaaDoor
/-
  hard (layer 19), the eighth part: Of, of any records.
-/
set_option linter.unusedSimpArgs false
set_option linter.unusedVariables false
namespace Go.Proofs.YtnoiahlpmgbhfaaDoor
open Go.Vx Go.ChangeShapes Go.WideShapes Go.ChangeAt Go.RowKit
theorem good_step {n : Nat} {h : Hd} (g : Good n h) {x : Rc} (hc : x.cmd.ok) : Good (n + 1) (stepH h x) := by
  unfold stepH
  by_cases hx : chkI x = 0
  · rw [if_pos hx]; exact good_chg g hx hc
  · rw [if_neg hx]; exact g.more (by omega)
theorem foldl_take {l : List Rc} {k : Nat} (h : k < l.length) : (l.take (k + 1)).foldl stepH Hd.zero = stepH ((l.take k).foldl stepH Hd.zero) l[k] := by
  rw [List.take_add_one, List.getElem?_eq_getElem h, List.foldl_append]
  rfl
theorem hd_zero (G : GH) : HdV G Hd.zero (hdL 0 0 0 (.slice none 0 0) (.slice none 0 0) (.slice none 0 0)) := ⟨_, _, _, rfl, Sl.nil, Sl.nil, Sl.nil⟩
theorem of_s {G : GH} (hT : TabsG G) {l : List Rc} {lv : Value} (hs : Rs G lv l) (hn : l.length ≤ 200) : Con Tryd.prog 19 #[lv] G [] (fun r G' μ' => μ' = [] ∧ ∃ L, r = .agg L.toArray ∧ HdV G' (hardOf l) L) := by
  obtain ⟨A, c, ivf, rfl, hlc, hcm, hsome, hcp, him, hok⟩ := rsOpen hs
  simp only [maxLen] at hcm
  refine v_enter Tryd.func19 rfl Tryd.ntmps19 rfl (fun B => ?_)
  repeat' (first | apply v_seq | apply v_region | apply v_nil | apply v_block | (apply v_pure; (case hop => first | (apply p_move <;> rfl) | (apply p_assign <;> rfl) | (apply p_lenSlice <;> rfl) | (apply p_build; (case hz => rfl); (case hv => (simp only [List.map_cons, List.map_nil]; repeat (first | with_reducible exact evs_nil | fail))); (case hb => (apply bldL; repeat (first | exact bld_nil | fail)))) | fail); (case hd => rfl)) | (apply v_alloc; (case hz => rfl); (case hd => rfl); intro b) | (apply v_box; (case hx => rfl); (case hz => rfl); (case hd => rfl); intro b) | fail)
  rename_i ob
  rename Nat => hb
  refine v_loop [10, 9, 8, 3, 2] (fun us G' μ' => GH.le G G' ∧ ∃ (k : Nat) (L : List Value), k ≤ l.length ∧ us = [Value.int .i64 (k : Nat), .int .i64 (l.length : Nat), .slice A l.length c, .pointer (some ⟨hb, 0, none⟩), .pointer (some ⟨ob, 0, none⟩)] ∧ μ' = [(hb, hdO L), (ob, .cells (hdL 0 0 0 (.slice none 0 0) (.slice none 0 0) (.slice none 0 0)).toArray 42 (0, 0))] ∧ HdV G' ((l.take k).foldl stepH Hd.zero) L ∧ Good k ((l.take k).foldl stepH Hd.zero)) (fun us => l.length - (headI us).toNat) rfl ⟨GH.le_refl _, 0, _, by omega, rfl, rfl, hd_zero G, good_zero⟩ ?_
  rintro us G2 μ' ⟨hle, k, L, hk, rfl, rfl, hh, hg⟩
  by_cases hlt : k < l.length
  · have e1 : ((k : Nat) : Int).toNat = k := by omega
    have hcx := (hcp k hlt).le hle
    have hix := (him k hlt).mono hle
    have hcok := hok _ (List.getElem_mem hlt)
    have hft := foldl_take hlt
    have hgs := good_step hg hcok.1
    rw [← hft] at hgs
    generalize hxe : l[k] = x at *
    generalize ivf k = iv at *
    obtain ⟨Ai, ci, rfl, hic, him2, -⟩ := id hix.openInt
    simp only [maxLen] at him2
    have hx : RcV G2 x (.agg (recL x.kind x.round x.node x.index x.cmd (.slice Ai x.image.length ci)).toArray) := ⟨_, rfl, hix⟩
    have qc := recCheck_s (hT.le hle) x.kind x.round x.node x.index x.cmd hcok.1 Ai x.image.length ci (by omega)
    by_cases hv : chkI x = 0
    · have q := change_s hb hh hg (by omega) hx hv hcok.1
      have es : stepH ((l.take k).foldl stepH Hd.zero) x = chg ((l.take k).foldl stepH Hd.zero) x := by unfold stepH; rw [if_pos hv]
      rw [es] at hft
      rw [show recI x.kind x.round x.node x.index x.cmd x.image.length = 0 from hv] at qc
      repeat' (first | apply v_seq | apply v_region | apply v_nil | apply v_skip | apply v_block | (apply v_pure; (case hop => first | (apply p_move <;> rfl) | (apply p_eqs <;> rfl) | (apply p_lt <;> rfl) | (apply p_indexAddrS; (case hx => rfl); (case hi => rfl); (case h0 => omega); (case h => omega); (case hA => first | (apply_assumption; omega))) | fail); (case hd => rfl)) | (apply v_condT; (case hc => rfl)) | (apply v_cond; (case hc => rfl); all_goals (intro h; (try simp only [reduceCtorEq, dec_true, dec_false, decide_eq_true_eq, decide_eq_false_iff_not, Bool.not_eq_true', Bool.not_eq_false', Option.isNone_iff_eq_none, beq_true, beq_false, beq_iff_eq, beq_eq_false_iff_ne, ne_eq, decide_eq_decide, Bool.not_eq_true, Bool.not_eq_false, Decidable.not_not] at h); first | (exfalso; omega) | skip)) | (apply v_read; (case hop => first | (apply r_loadN; rfl; exact CellsAt.frozen hcx; rfl)); (case hd => rfl)) | (apply v_callJ (hs := qc); (case ha => rfl); (case hd => rfl)) | (apply v_read; (case hop => first | (apply r_loadNo; (case hx => rfl); (case h => (repeat (first | exact List.Mem.head _ | fail))); (case hd => (repeat (first | with_reducible exact dt_nil | apply dt_here | fail))); (case hn => rfl)) | fail); (case hd => rfl)) | (apply v_alloc; (case hz => rfl); (case hd => rfl); intro b) | (apply v_store; (case hp => rfl); (case hx => rfl); (case hc => rfl); (case hsz => rfl); (case h1 => rfl); (case hb => (repeat (first | exact List.Mem.head _ | fail))); (case hfit => first | exact Nat.le_of_ble_eq_true rfl | fail); (case hov => (first | ((repeat (first | with_reducible exact ov_nil | apply ov_cons | fail)); done) | fail)); (case hu => repeat (first | exact Upd.here _ _ | fail))) | fail)
      refine v_call (μ1 := [(hb, _)]) (μ2 := _) rfl q (PickA.perm (by repeat (first | exact PickA.here _ | apply PickA.cons | fail))) rfl ?_
      rintro _ G3 _ hle3 ⟨L', rfl, h'⟩
      rw [← hft] at h'
      repeat' (first | apply v_region | apply v_nil | apply v_blk | (apply v_pure; (case hop => first | (apply p_move <;> rfl) | (apply p_add; (case hx => rfl); (case hy => rfl); (case h => omega)) | fail); (case hd => rfl)) | fail)
      refine v_drop (ν := [(hb, _), (ob, _)]) (by repeat (first | exact List.Sublist.refl _ | apply List.Sublist.cons_cons | apply List.Sublist.cons | fail)) ?_
      refine v_again rfl ⟨GH.le_trans hle hle3, k + 1, L', by omega, rfl, rfl, h', hgs⟩ (by simp [headI]; omega)
    · have es : stepH ((l.take k).foldl stepH Hd.zero) x = (l.take k).foldl stepH Hd.zero := by unfold stepH; rw [if_neg hv]
      rw [es] at hft
      have hv' : ¬ recI x.kind x.round x.node x.index x.cmd x.image.length = 0 := hv
      generalize recI x.kind x.round x.node x.index x.cmd x.image.length = I at *
      repeat' (first | apply v_seq | apply v_region | apply v_nil | apply v_skip | apply v_block | apply v_blk | (apply v_pure; (case hop => first | (apply p_move <;> rfl) | (apply p_eq <;> rfl) | (apply p_lt <;> rfl) | (apply p_add; (case hx => rfl); (case hy => rfl); (case h => omega)) | (apply p_indexAddrS; (case hx => rfl); (case hi => rfl); (case h0 => omega); (case h => omega); (case hA => first | (apply_assumption; omega))) | fail); (case hd => rfl)) | (apply v_cond; (case hc => rfl); all_goals (intro h; (try simp only [reduceCtorEq, dec_true, dec_false, decide_eq_true_eq, decide_eq_false_iff_not, Bool.not_eq_true', Bool.not_eq_false', Option.isNone_iff_eq_none, beq_true, beq_false, beq_iff_eq, beq_eq_false_iff_ne, ne_eq, decide_eq_decide, Bool.not_eq_true, Bool.not_eq_false, Decidable.not_not] at h); first | (exfalso; omega) | skip)) | (apply v_read; (case hop => first | (apply r_loadN; rfl; exact CellsAt.frozen hcx; rfl)); (case hd => rfl)) | (apply v_callJ (hs := qc); (case ha => rfl); (case hd => rfl)) | (apply v_read; (case hop => first | (apply r_loadNo; (case hx => rfl); (case h => (repeat (first | exact List.Mem.head _ | fail))); (case hd => (repeat (first | with_reducible exact dt_nil | apply dt_here | fail))); (case hn => rfl)) | fail); (case hd => rfl)) | (apply v_alloc; (case hz => rfl); (case hd => rfl); intro b) | (apply v_store; (case hp => rfl); (case hx => rfl); (case hc => rfl); (case hsz => rfl); (case h1 => rfl); (case hb => (repeat (first | exact List.Mem.head _ | fail))); (case hfit => first | exact Nat.le_of_ble_eq_true rfl | fail); (case hov => (first | ((repeat (first | with_reducible exact ov_nil | apply ov_cons | fail)); done) | fail)); (case hu => repeat (first | exact Upd.here _ _ | fail))) | fail)
      refine v_drop (ν := [(hb, _), (ob, _)]) (by repeat (first | exact List.Sublist.refl _ | apply List.Sublist.cons | fail)) ?_
      refine v_again rfl ⟨hle, k + 1, L, by omega, rfl, rfl, by rw [hft]; exact hh, hgs⟩ (by simp [headI]; omega)
  · obtain rfl : k = l.length := by omega
    rw [List.take_length] at hh
    obtain ⟨im, av, cv, rfl, hi, ha, hc⟩ := hh
    obtain ⟨A0, c0, rfl, -⟩ := id hi.openInt
    obtain ⟨A1, c1, rfl, -⟩ := id ha.open
    obtain ⟨A2, c2, rfl, -⟩ := id hc.open
    repeat' (first | apply v_seq | apply v_region | apply v_nil | (apply v_exit; (case hp => rfl)) | (apply v_pure; (case hop => first | (apply p_move <;> rfl) | (apply p_lt <;> rfl) | (apply p_fieldAddrB <;> rfl) | (apply p_nilCheck <;> rfl) | fail); (case hd => rfl)) | (apply v_cond; (case hc => rfl); all_goals (intro h; (try simp only [reduceCtorEq, dec_true, dec_false, decide_eq_true_eq, decide_eq_false_iff_not, Bool.not_eq_true', Bool.not_eq_false', Option.isNone_iff_eq_none, beq_true, beq_false, beq_iff_eq, beq_eq_false_iff_ne, ne_eq, decide_eq_decide, Bool.not_eq_true, Bool.not_eq_false, Decidable.not_not] at h); first | (exfalso; omega) | skip)) | (apply v_read; (case hop => first | (apply r_loadNo; (case hx => rfl); (case h => (repeat (first | exact List.Mem.head _ | fail))); (case hd => (repeat (first | with_reducible exact dt_nil | apply dt_here | fail))); (case hn => rfl)) | fail); (case hd => rfl)) | (apply v_store; (case hp => rfl); (case hx => rfl); (case hc => rfl); (case hsz => rfl); (case h1 => rfl); (case hb => (repeat (first | exact List.Mem.head _ | apply List.Mem.tail | fail))); (case hfit => first | exact Nat.le_of_ble_eq_true rfl | fail); (case hov => (first | ((repeat (first | with_reducible exact ov_nil | apply ov_cons | fail)); done) | fail)); (case hu => repeat (first | exact Upd.here _ _ | apply Upd.there | fail))) | fail)
    refine v_retM [] (outsM_cell (vs := hdL (l.foldl stepH Hd.zero).pr (l.foldl stepH Hd.zero).pn (l.foldl stepH Hd.zero).base (.slice A0 (l.foldl stepH Hd.zero).image.length c0) (.slice A1 (l.foldl stepH Hd.zero).acc.length c1) (.slice A2 (l.foldl stepH Hd.zero).cho.length c2)) (e := 42) rfl rfl (by repeat (first | exact List.Mem.head _ | apply List.Mem.tail)) rfl) (by repeat (first | exact List.nil_sublist _ | fail)) ?_
    exact ⟨rfl, _, rfl, _, _, _, rfl, hi, ha, hc⟩
end Go.Proofs.YtnoiahlpmgbhfaaDoor
/-
  hard (layer 19), the ninth part: the reference's Of.
-/
set_option linter.unusedSimpArgs false
set_option linter.unusedVariables false
namespace Go.Proofs.YtnoiahlpmgbhfaaDoor
open Go.Vx Go.ChangeShapes Go.WideShapes Go.ChangeAt Go.RowKit
theorem refLess_s (G : GH) (r n r' n' : Int) : Con Tryd.prog 24 #[.agg #[.int .i64 r, .int .i64 n], .agg #[.int .i64 r', .int .i64 n']] G [] (Just (.bool (decide (lessP r n r' n'))) G) := by
  apply Con.just
  refine v_enter Tryd.func24 rfl Tryd.ntmps24 rfl (fun B => ?_)
  repeat' (first | apply v_seq | apply v_region | apply v_nil | apply v_skip | (apply v_pure; (case hop => first | (apply p_eq <;> rfl) | (apply p_lt <;> rfl) | (apply p_assign <;> rfl) | (apply p_fieldAddrB <;> rfl) | fail); (case hd => rfl)) | (apply v_cond; (case hc => rfl); all_goals (intro h; (try simp only [reduceCtorEq, dec_true, dec_false, decide_eq_true_eq, decide_eq_false_iff_not, Bool.not_eq_true', Bool.not_eq_false', Option.isNone_iff_eq_none, beq_true, beq_false, beq_iff_eq, beq_eq_false_iff_ne, ne_eq, decide_eq_decide, Bool.not_eq_true, Bool.not_eq_false, Decidable.not_not] at h); first | skip)) | (apply v_read; (case hop => first | (apply r_load1; rfl; (apply Cell.own; (case h => (repeat (first | exact List.Mem.head _ | apply List.Mem.tail | fail))); rfl)) | fail); (case hd => rfl)) | (apply v_box; (case hx => rfl); (case hz => rfl); (case hd => rfl); intro b) | fail)
  all_goals
    (refine v_ret [] (outsA1 rfl rfl) (by repeat (first | exact List.nil_sublist _ | fail)) ?_
     refine ⟨?_, rfl⟩
     rw [dec_eq]
     congr 1
     rw [decide_eq_decide]
     unfold lessP
     omega)
theorem r1_take {l : List Rc} {k : Nat} (h : k < l.length) : (l.take (k + 1)).foldl r1 Hd.zero = r1 ((l.take k).foldl r1 Hd.zero) l[k] := by
  rw [List.take_add_one, List.getElem?_eq_getElem h, List.foldl_append]
  rfl
theorem accS_take {b : Int} {l : List Rc} {k : Nat} (h : k < l.length) : (l.take (k + 1)).foldl (accS b) [] = accS b ((l.take k).foldl (accS b) []) l[k] := by
  rw [List.take_add_one, List.getElem?_eq_getElem h, List.foldl_append]
  rfl
theorem choS_take {b : Int} {l : List Rc} {k : Nat} (h : k < l.length) : (l.take (k + 1)).foldl (choS b) [] = choS b ((l.take k).foldl (choS b) []) l[k] := by
  rw [List.take_add_one, List.getElem?_eq_getElem h, List.foldl_append]
  rfl
abbrev nilS : Value := .slice none 0 0
abbrev resO : Obj := .cells (hdL 0 0 0 nilS nilS nilS).toArray 42 (0, 0)
abbrev hardO (L : List Value) : Obj := .cells L.toArray 42 (0, 0)
/-- What is so of the lists of the second pass. -/
structure Two (k : Nat) (acc cho : List Ent) : Prop where
  ra : RiseL acc
  rc : RiseL cho
  na : acc.length ≤ k
  nc : cho.length ≤ k
  oa : ∀ e ∈ acc, e.ok
  oc : ∀ e ∈ cho, e.ok
theorem insN_len (x : Ent) (l : List Ent) : (insN x l).length ≤ l.length + 1 := by
  unfold insN
  split
  · omega
  · exact ins_len x l
theorem two_step {k : Nat} {acc cho : List Ent} (t : Two k acc cho) (b : Int) {x : Rc} (hc : x.cmd.ok) : Two (k + 1) (accS b acc x) (choS b cho x) := by
  have hm : Two (k + 1) acc cho := ⟨t.ra, t.rc, by have := t.na; omega, by have := t.nc; omega, t.oa, t.oc⟩
  have h1 : ∀ acc' cho', acc' = accS b acc x → cho' = choS b cho x → Two (k + 1) acc' cho' := by
    rintro _ _ rfl rfl
    refine ⟨?_, ?_, ?_, ?_, ?_, ?_⟩
    · unfold accS; split
      · exact rise_ins t.ra _
      · exact t.ra
    · unfold choS; split
      · exact rise_insN t.rc _
      · exact t.rc
    · unfold accS; split
      · exact Nat.le_trans (ins_len _ _) (by have := t.na; omega)
      · exact hm.na
    · unfold choS; split
      · exact Nat.le_trans (insN_len _ _) (by have := t.nc; omega)
      · exact hm.nc
    · unfold accS; split
      · rename_i h
        intro e he
        obtain rfl | he := mem_ins he
        · exact (entOf_ok h.1 hc).1
        · exact t.oa e he
      · exact t.oa
    · unfold choS; split
      · rename_i h
        intro e he
        unfold insN at he
        split at he
        · exact t.oc e he
        · obtain rfl | he := mem_ins he
          · exact (entOf_ok h.1 hc).1
          · exact t.oc e he
      · exact t.oc
  exact h1 _ _ rfl rfl
theorem two_zero : Two 0 [] [] := ⟨fun i j hj => by simp at hj, fun i j hj => by simp at hj, by simp, by simp, by simp, by simp⟩
theorem rOf_s {G : GH} {l : List Rc} {lv : Value} (hs : Rs G lv l) (hn : l.length ≤ 200) :
    Con Tryd.prog 21 #[lv] G [] (fun r G' μ' => μ' = [] ∧ ∃ L, r = .agg L.toArray ∧ HdV G' ⟨(l.foldl r1 Hd.zero).pr, (l.foldl r1 Hd.zero).pn, (l.foldl r1 Hd.zero).base, (l.foldl r1 Hd.zero).image, l.foldl (accS (l.foldl r1 Hd.zero).base) [], l.foldl (choS (l.foldl r1 Hd.zero).base) []⟩ L) := by
  obtain ⟨A, c, ivf, rfl, hlc, hcm, hsome, hcp, him, hok⟩ := rsOpen hs
  simp only [maxLen] at hcm
  refine v_enter Tryd.func21 rfl Tryd.ntmps21 rfl (fun B => ?_)
  repeat' (first | apply v_seq | apply v_region | apply v_nil | apply v_block | (apply v_pure; (case hop => first | (apply p_assign <;> rfl) | fail); (case hd => rfl)) | (apply v_alloc; (case hz => rfl); (case hd => rfl); intro b) | fail)
  rename_i ob
  rename Nat => hb
  refine v_loop [4, 0, 3, 2] (fun us G' μ' => G' = G ∧ ∃ (k : Nat) (iv : Value), k ≤ l.length ∧ us = [Value.int .i64 (k : Nat), .slice A l.length c, .pointer (some ⟨hb, 0, none⟩), .pointer (some ⟨ob, 0, none⟩)] ∧ μ' = [(hb, hardO (hdL ((l.take k).foldl r1 Hd.zero).pr ((l.take k).foldl r1 Hd.zero).pn ((l.take k).foldl r1 Hd.zero).base iv nilS nilS)), (ob, resO)] ∧ Sl G 1 (IntR .u8) iv ((l.take k).foldl r1 Hd.zero).image) (fun us => l.length - (headI us).toNat) rfl ⟨rfl, 0, nilS, by omega, rfl, rfl, Sl.nil⟩ ?_
  rintro us G2 μ' ⟨rfl, k, im, hk, rfl, rfl, hi⟩
  by_cases hlt : k < l.length
  · have e1 : ((k : Nat) : Int).toNat = k := by omega
    have hcx := hcp k hlt
    have hix := him k hlt
    have hcok := hok _ (List.getElem_mem hlt)
    have hft := r1_take hlt
    generalize hxe : l[k] = x at *
    generalize ivf k = iv at *
    generalize (l.take k).foldl r1 Hd.zero = H at *
    obtain ⟨Ai, ci, rfl, hic, him2, -⟩ := id hix.openInt
    obtain ⟨Aj, cj, rfl, -⟩ := id hi.openInt
    simp only [maxLen] at him2
    have qc := refRecCheck_s (G := G2) x.kind x.round x.node x.index x.cmd hcok.1 Ai x.image.length ci (by omega)
    by_cases hv : chkI x = 0
    rotate_left
    · have es : r1 H x = H := by unfold r1; rw [if_neg hv]
      have hv' : ¬ recI x.kind x.round x.node x.index x.cmd x.image.length = 0 := hv
      generalize recI x.kind x.round x.node x.index x.cmd x.image.length = I at *
      repeat' (first | apply v_seq | apply v_region | apply v_nil | apply v_skip | apply v_block | (apply v_exit; (case hp => rfl)) | (apply v_pure; (case hop => first | (apply p_move <;> rfl) | (apply p_lt <;> rfl) | (apply p_ne <;> rfl) | (apply p_assign <;> rfl) | (apply p_lenSlice <;> rfl) | (apply p_add; (case hx => rfl); (case hy => rfl); (case h => omega)) | (apply p_indexAddrS; (case hx => rfl); (case hi => rfl); (case h0 => omega); (case h => omega); (case hA => first | (apply_assumption; omega))) | fail); (case hd => rfl)) | (apply v_cond; (case hc => rfl); all_goals (intro h; (try simp only [reduceCtorEq, dec_true, dec_false, decide_eq_true_eq, decide_eq_false_iff_not, Bool.not_eq_true', Bool.not_eq_false', Option.isNone_iff_eq_none, beq_true, beq_false, beq_iff_eq, beq_eq_false_iff_ne, ne_eq, decide_eq_decide, Bool.not_eq_true, Bool.not_eq_false, Decidable.not_not] at h); first | (exfalso; omega) | skip)) | (apply v_read; (case hop => first | (apply r_loadN; rfl; exact CellsAt.frozen hcx; rfl)); (case hd => rfl)) | (apply v_callJ (hs := qc); (case ha => rfl); (case hd => rfl)) | (apply v_read; (case hop => first | (apply r_loadNo; (case hx => rfl); (case h => (repeat (first | exact List.Mem.head _ | fail))); (case hd => (repeat (first | with_reducible exact dt_nil | apply dt_here | fail))); (case hn => rfl)) | fail); (case hd => rfl)) | (apply v_alloc; (case hz => rfl); (case hd => rfl); intro b) | (apply v_store; (case hp => rfl); (case hx => rfl); (case hc => rfl); (case hsz => rfl); (case h1 => rfl); (case hb => (repeat (first | exact List.Mem.head _ | fail))); (case hfit => first | exact Nat.le_of_ble_eq_true rfl | fail); (case hov => (first | ((repeat (first | with_reducible exact ov_nil | apply ov_cons | fail)); done) | fail)); (case hu => repeat (first | exact Upd.here _ _ | fail))) | fail)
      refine v_drop (ν := [(hb, _), (ob, _)]) (by repeat (first | exact List.Sublist.refl _ | apply List.Sublist.cons | fail)) ?_
      refine v_again rfl ⟨rfl, k + 1, _, by omega, rfl, by rw [hft, es], by rw [hft, es]; exact hi⟩ (by simp [headI]; omega)
    rw [show recI x.kind x.round x.node x.index x.cmd x.image.length = 0 from hv] at qc
    have hkk := (rec0 (show recI x.kind x.round x.node x.index x.cmd x.image.length = 0 from hv)).1
    have es : r1 H x = (if x.kind = 1 ∨ x.kind = 2 then H.prom x else if x.kind = 4 ∧ H.base < x.index then { H with base := x.index, image := x.image } else H) := by unfold r1; rw [if_pos hv]
    rw [es] at hft
    have qb := hasBallot_s G2 x.kind
    have ql := refLess_s G2 H.pr H.pn x.round x.node
    by_cases k12 : x.kind = 1 ∨ x.kind = 2
    · rw [if_pos k12] at hft
      rw [decide_eq_true k12] at qb
      unfold Hd.prom at hft
      by_cases hl : lessP H.pr H.pn x.round x.node
      · rw [if_pos hl] at hft
        rw [decide_eq_true hl] at ql
        repeat' (first | apply v_seq | apply v_region | apply v_nil | apply v_skip | apply v_block | apply v_blk | (apply v_take; (case hg => rfl)) | (apply v_pass; (case hg => rfl); (case hn => rfl); (case hd => rfl)) | (apply v_pure; (case hop => first | (apply p_move <;> rfl) | (apply p_nes <;> rfl) | (apply p_eq <;> rfl) | (apply p_lt <;> rfl) | (apply p_assign <;> rfl) | (apply p_pickT <;> rfl) | (apply p_pickF <;> rfl) | (apply p_lenSlice <;> rfl) | (apply p_fieldAddrB <;> rfl) | (apply p_add; (case hx => rfl); (case hy => rfl); (case h => omega)) | (apply p_indexAddrS; (case hx => rfl); (case hi => rfl); (case h0 => omega); (case h => omega); (case hA => first | (apply_assumption; omega))) | fail); (case hd => rfl)) | (apply v_condT; (case hc => rfl)) | (apply v_condF; (case hc => rfl)) | (apply v_cond; (case hc => rfl); all_goals (intro h; (try simp only [reduceCtorEq, dec_true, dec_false, decide_eq_true_eq, decide_eq_false_iff_not, Bool.not_eq_true', Bool.not_eq_false', Option.isNone_iff_eq_none, beq_true, beq_false, beq_iff_eq, beq_eq_false_iff_ne, ne_eq, decide_eq_decide, Bool.not_eq_true, Bool.not_eq_false, Decidable.not_not] at h); first | (exfalso; omega) | skip)) | (apply v_guardB; (case h1 => rfl); (case h2 => rfl); all_goals (intro h; (try simp only [reduceCtorEq, dec_true, dec_false, decide_eq_true_eq, decide_eq_false_iff_not, Bool.not_eq_true', Bool.not_eq_false', Option.isNone_iff_eq_none, beq_true, beq_false, beq_iff_eq, beq_eq_false_iff_ne, ne_eq, decide_eq_decide, Bool.not_eq_true, Bool.not_eq_false, Decidable.not_not] at h); first | (exfalso; omega) | skip)) | (apply v_read; (case hop => first | (apply r_loadN; rfl; exact CellsAt.frozen hcx; rfl)); (case hd => rfl)) | (apply v_callJ (hs := qc); (case ha => rfl); (case hd => rfl)) | (apply v_callJ (hs := qb); (case ha => rfl); (case hd => rfl)) | (apply v_callJ (hs := ql); (case ha => rfl); (case hd => rfl)) | (apply v_read; (case hop => first | (apply r_loadNo; (case hx => rfl); (case h => (repeat (first | exact List.Mem.head _ | apply List.Mem.tail | fail))); (case hd => (repeat (first | with_reducible exact dt_nil | apply dt_here | fail))); (case hn => rfl)) | (apply r_load1; rfl; (apply Cell.own; (case h => (repeat (first | exact List.Mem.head _ | fail))); rfl)) | fail); (case hd => rfl)) | (apply v_alloc; (case hz => rfl); (case hd => rfl); intro b) | (apply v_store; (case hp => rfl); (case hx => rfl); (case hc => rfl); (case hsz => rfl); (case h1 => rfl); (case hb => (repeat (first | exact List.Mem.head _ | apply List.Mem.tail | fail))); (case hfit => first | exact Nat.le_of_ble_eq_true rfl | fail); (case hov => (first | ((repeat (first | with_reducible exact ov_nil | apply ov_cons | fail)); done) | fail)); (case hu => repeat (first | exact Upd.here _ _ | apply Upd.there | fail))) | fail)
        refine v_drop (ν := [(hb, _), (ob, _)]) (by repeat (first | exact List.Sublist.refl _ | apply List.Sublist.cons | fail)) ?_
        refine v_again rfl ⟨rfl, k + 1, _, by omega, rfl, by (rw [hft] <;> rfl), by rw [hft]; exact hi⟩ (by simp [headI]; omega)
      · rw [if_neg hl] at hft
        rw [decide_eq_false hl] at ql
        repeat' (first | apply v_seq | apply v_region | apply v_nil | apply v_skip | apply v_block | apply v_blk | (apply v_take; (case hg => rfl)) | (apply v_pass; (case hg => rfl); (case hn => rfl); (case hd => rfl)) | (apply v_pure; (case hop => first | (apply p_move <;> rfl) | (apply p_nes <;> rfl) | (apply p_eq <;> rfl) | (apply p_lt <;> rfl) | (apply p_assign <;> rfl) | (apply p_pickT <;> rfl) | (apply p_pickF <;> rfl) | (apply p_lenSlice <;> rfl) | (apply p_fieldAddrB <;> rfl) | (apply p_add; (case hx => rfl); (case hy => rfl); (case h => omega)) | (apply p_indexAddrS; (case hx => rfl); (case hi => rfl); (case h0 => omega); (case h => omega); (case hA => first | (apply_assumption; omega))) | fail); (case hd => rfl)) | (apply v_condF; (case hc => rfl)) | (apply v_cond; (case hc => rfl); all_goals (intro h; (try simp only [reduceCtorEq, dec_true, dec_false, decide_eq_true_eq, decide_eq_false_iff_not, Bool.not_eq_true', Bool.not_eq_false', Option.isNone_iff_eq_none, beq_true, beq_false, beq_iff_eq, beq_eq_false_iff_ne, ne_eq, decide_eq_decide, Bool.not_eq_true, Bool.not_eq_false, Decidable.not_not] at h); first | (exfalso; omega) | skip)) | (apply v_guardB; (case h1 => rfl); (case h2 => rfl); all_goals (intro h; (try simp only [reduceCtorEq, dec_true, dec_false, decide_eq_true_eq, decide_eq_false_iff_not, Bool.not_eq_true', Bool.not_eq_false', Option.isNone_iff_eq_none, beq_true, beq_false, beq_iff_eq, beq_eq_false_iff_ne, ne_eq, decide_eq_decide, Bool.not_eq_true, Bool.not_eq_false, Decidable.not_not] at h); first | (exfalso; omega) | skip)) | (apply v_read; (case hop => first | (apply r_loadN; rfl; exact CellsAt.frozen hcx; rfl)); (case hd => rfl)) | (apply v_callJ (hs := qc); (case ha => rfl); (case hd => rfl)) | (apply v_callJ (hs := qb); (case ha => rfl); (case hd => rfl)) | (apply v_callJ (hs := ql); (case ha => rfl); (case hd => rfl)) | (apply v_read; (case hop => first | (apply r_loadNo; (case hx => rfl); (case h => (repeat (first | exact List.Mem.head _ | apply List.Mem.tail | fail))); (case hd => (repeat (first | with_reducible exact dt_nil | apply dt_here | fail))); (case hn => rfl)) | (apply r_load1; rfl; (apply Cell.own; (case h => (repeat (first | exact List.Mem.head _ | fail))); rfl)) | fail); (case hd => rfl)) | (apply v_alloc; (case hz => rfl); (case hd => rfl); intro b) | (apply v_store; (case hp => rfl); (case hx => rfl); (case hc => rfl); (case hsz => rfl); (case h1 => rfl); (case hb => (repeat (first | exact List.Mem.head _ | fail))); (case hfit => first | exact Nat.le_of_ble_eq_true rfl | fail); (case hov => (first | ((repeat (first | with_reducible exact ov_nil | apply ov_cons | fail)); done) | fail)); (case hu => repeat (first | exact Upd.here _ _ | fail))) | fail)
        refine v_drop (ν := [(hb, _), (ob, _)]) (by repeat (first | exact List.Sublist.refl _ | apply List.Sublist.cons | fail)) ?_
        refine v_again rfl ⟨rfl, k + 1, _, by omega, rfl, by (rw [hft] <;> rfl), by rw [hft]; exact hi⟩ (by simp [headI]; omega)
    · rw [if_neg k12] at hft
      rw [decide_eq_false k12] at qb
      by_cases k4 : x.kind = 4 ∧ H.base < x.index
      · rw [if_pos k4] at hft
        repeat' (first | apply v_seq | apply v_region | apply v_nil | apply v_skip | apply v_block | apply v_blk | (apply v_take; (case hg => rfl)) | (apply v_pass; (case hg => rfl); (case hn => rfl); (case hd => rfl)) | (apply v_pure; (case hop => first | (apply p_move <;> rfl) | (apply p_nes <;> rfl) | (apply p_eq <;> rfl) | (apply p_lt <;> rfl) | (apply p_gt <;> rfl) | (apply p_assign <;> rfl) | (apply p_pickT <;> rfl) | (apply p_pickF <;> rfl) | (apply p_lenSlice <;> rfl) | (apply p_fieldAddrB <;> rfl) | (apply p_add; (case hx => rfl); (case hy => rfl); (case h => omega)) | (apply p_indexAddrS; (case hx => rfl); (case hi => rfl); (case h0 => omega); (case h => omega); (case hA => first | (apply_assumption; omega))) | fail); (case hd => rfl)) | (apply v_condF; (case hc => rfl)) | (apply v_cond; (case hc => rfl); all_goals (intro h; (try simp only [reduceCtorEq, dec_true, dec_false, decide_eq_true_eq, decide_eq_false_iff_not, Bool.not_eq_true', Bool.not_eq_false', Option.isNone_iff_eq_none, beq_true, beq_false, beq_iff_eq, beq_eq_false_iff_ne, ne_eq, decide_eq_decide, Bool.not_eq_true, Bool.not_eq_false, Decidable.not_not] at h); first | (exfalso; omega) | skip)) | (apply v_guardB; (case h1 => rfl); (case h2 => rfl); all_goals (intro h; (try simp only [reduceCtorEq, dec_true, dec_false, decide_eq_true_eq, decide_eq_false_iff_not, Bool.not_eq_true', Bool.not_eq_false', Option.isNone_iff_eq_none, beq_true, beq_false, beq_iff_eq, beq_eq_false_iff_ne, ne_eq, decide_eq_decide, Bool.not_eq_true, Bool.not_eq_false, Decidable.not_not] at h); first | (exfalso; omega) | skip)) | (apply v_read; (case hop => first | (apply r_loadN; rfl; exact CellsAt.frozen hcx; rfl)); (case hd => rfl)) | (apply v_callJ (hs := qc); (case ha => rfl); (case hd => rfl)) | (apply v_callJ (hs := qb); (case ha => rfl); (case hd => rfl)) | (apply v_read; (case hop => first | (apply r_loadNo; (case hx => rfl); (case h => (repeat (first | exact List.Mem.head _ | fail))); (case hd => (repeat (first | with_reducible exact dt_nil | apply dt_here | fail))); (case hn => rfl)) | (apply r_load1; rfl; (apply Cell.own; (case h => (repeat (first | exact List.Mem.head _ | apply List.Mem.tail | fail))); rfl)) | fail); (case hd => rfl)) | (apply v_alloc; (case hz => rfl); (case hd => rfl); intro b) | (apply v_store; (case hp => rfl); (case hx => rfl); (case hc => rfl); (case hsz => rfl); (case h1 => rfl); (case hb => (repeat (first | exact List.Mem.head _ | apply List.Mem.tail | fail))); (case hfit => first | exact Nat.le_of_ble_eq_true rfl | fail); (case hov => (first | ((repeat (first | with_reducible exact ov_nil | apply ov_cons | fail)); done) | fail)); (case hu => repeat (first | exact Upd.here _ _ | apply Upd.there | fail))) | fail)
        refine v_drop (ν := [(hb, _), (ob, _)]) (by repeat (first | exact List.Sublist.refl _ | apply List.Sublist.cons | fail)) ?_
        refine v_again rfl ⟨rfl, k + 1, _, by omega, rfl, by (rw [hft] <;> rfl), by rw [hft]; exact hix⟩ (by simp [headI]; omega)
      · rw [if_neg k4] at hft
        repeat' (first | apply v_seq | apply v_region | apply v_nil | apply v_skip | apply v_block | apply v_blk | (apply v_take; (case hg => rfl)) | (apply v_pass; (case hg => rfl); (case hn => rfl); (case hd => rfl)) | (apply v_pure; (case hop => first | (apply p_move <;> rfl) | (apply p_nes <;> rfl) | (apply p_eq <;> rfl) | (apply p_lt <;> rfl) | (apply p_gt <;> rfl) | (apply p_assign <;> rfl) | (apply p_pickT <;> rfl) | (apply p_pickF <;> rfl) | (apply p_lenSlice <;> rfl) | (apply p_fieldAddrB <;> rfl) | (apply p_add; (case hx => rfl); (case hy => rfl); (case h => omega)) | (apply p_indexAddrS; (case hx => rfl); (case hi => rfl); (case h0 => omega); (case h => omega); (case hA => first | (apply_assumption; omega))) | fail); (case hd => rfl)) | (apply v_condF; (case hc => rfl)) | (apply v_cond; (case hc => rfl); all_goals (intro h; (try simp only [reduceCtorEq, dec_true, dec_false, decide_eq_true_eq, decide_eq_false_iff_not, Bool.not_eq_true', Bool.not_eq_false', Option.isNone_iff_eq_none, beq_true, beq_false, beq_iff_eq, beq_eq_false_iff_ne, ne_eq, decide_eq_decide, Bool.not_eq_true, Bool.not_eq_false, Decidable.not_not] at h); first | (exfalso; omega) | skip)) | (apply v_guardB; (case h1 => rfl); (case h2 => rfl); all_goals (intro h; (try simp only [reduceCtorEq, dec_true, dec_false, decide_eq_true_eq, decide_eq_false_iff_not, Bool.not_eq_true', Bool.not_eq_false', Option.isNone_iff_eq_none, beq_true, beq_false, beq_iff_eq, beq_eq_false_iff_ne, ne_eq, decide_eq_decide, Bool.not_eq_true, Bool.not_eq_false, Decidable.not_not] at h); first | skip)) | (apply v_read; (case hop => first | (apply r_loadN; rfl; exact CellsAt.frozen hcx; rfl)); (case hd => rfl)) | (apply v_callJ (hs := qc); (case ha => rfl); (case hd => rfl)) | (apply v_callJ (hs := qb); (case ha => rfl); (case hd => rfl)) | (apply v_read; (case hop => first | (apply r_loadNo; (case hx => rfl); (case h => (repeat (first | exact List.Mem.head _ | fail))); (case hd => (repeat (first | with_reducible exact dt_nil | apply dt_here | fail))); (case hn => rfl)) | (apply r_load1; rfl; (apply Cell.own; (case h => (repeat (first | exact List.Mem.head _ | apply List.Mem.tail | fail))); rfl)) | fail); (case hd => rfl)) | (apply v_alloc; (case hz => rfl); (case hd => rfl); intro b) | (apply v_store; (case hp => rfl); (case hx => rfl); (case hc => rfl); (case hsz => rfl); (case h1 => rfl); (case hb => (repeat (first | exact List.Mem.head _ | fail))); (case hfit => first | exact Nat.le_of_ble_eq_true rfl | fail); (case hov => (first | ((repeat (first | with_reducible exact ov_nil | apply ov_cons | fail)); done) | fail)); (case hu => repeat (first | exact Upd.here _ _ | fail))) | fail)
        all_goals
          (refine v_drop (ν := [(hb, _), (ob, _)]) (by repeat (first | exact List.Sublist.refl _ | apply List.Sublist.cons | fail)) ?_
           refine v_again rfl ⟨rfl, k + 1, _, by omega, rfl, by (rw [hft] <;> rfl), by rw [hft]; exact hi⟩ (by simp [headI]; omega))
  obtain rfl : k = l.length := by omega
  rw [List.take_length] at hi ⊢
  generalize l.foldl r1 Hd.zero = H at *
  repeat' (first | apply v_seq | apply v_region | apply v_nil | apply v_block | (apply v_exit; (case hp => rfl)) | (apply v_pure; (case hop => first | (apply p_move <;> rfl) | (apply p_lt <;> rfl) | (apply p_assign <;> rfl) | (apply p_lenSlice <;> rfl) | fail); (case hd => rfl)) | (apply v_cond; (case hc => rfl); all_goals (intro h; (try simp only [reduceCtorEq, dec_true, dec_false, decide_eq_true_eq, decide_eq_false_iff_not, Bool.not_eq_true', Bool.not_eq_false', Option.isNone_iff_eq_none, beq_true, beq_false, beq_iff_eq, beq_eq_false_iff_ne, ne_eq, decide_eq_decide, Bool.not_eq_true, Bool.not_eq_false, Decidable.not_not] at h); first | (exfalso; omega) | skip)) | fail)
  refine v_loop [6, 0, 3, 2] (fun us G' μ' => GH.le G2 G' ∧ ∃ (k : Nat) (L : List Value), k ≤ l.length ∧ us = [Value.int .i64 (k : Nat), .slice A l.length c, .pointer (some ⟨hb, 0, none⟩), .pointer (some ⟨ob, 0, none⟩)] ∧ μ' = [(hb, hardO L), (ob, resO)] ∧ HdV G' ⟨H.pr, H.pn, H.base, H.image, (l.take k).foldl (accS H.base) [], (l.take k).foldl (choS H.base) []⟩ L ∧ Two k ((l.take k).foldl (accS H.base) []) ((l.take k).foldl (choS H.base) [])) (fun us => l.length - (headI us).toNat) rfl ⟨GH.le_refl _, 0, _, by omega, rfl, rfl, ⟨im, nilS, nilS, rfl, hi, Sl.nil, Sl.nil⟩, two_zero⟩ ?_
  rintro us G3 μ' ⟨hle, k, L, hk, rfl, rfl, hh, ht⟩
  obtain ⟨im2, av, cv, rfl, hi2, ha, hc⟩ := hh
  simp only at hi2 ha hc
  obtain ⟨A0, c0, rfl, -⟩ := id hi2.openInt
  obtain ⟨A1, c1, rfl, -⟩ := id ha.open
  obtain ⟨A2, c2, rfl, -⟩ := id hc.open
  by_cases hlt : k < l.length
  · have e1 : ((k : Nat) : Int).toNat = k := by omega
    have hcx := (hcp k hlt).le hle
    have hix := (him k hlt).mono hle
    have hcok := hok _ (List.getElem_mem hlt)
    have hfa := accS_take (b := H.base) hlt
    have hfc := choS_take (b := H.base) hlt
    have ht' := two_step ht H.base hcok.1
    generalize hxe : l[k] = x at *
    rw [← hfa, ← hfc] at ht'
    generalize ivf k = iv at *
    obtain ⟨Ai, ci, rfl, hic, him2, -⟩ := id hix.openInt
    simp only [maxLen] at him2
    have qc := refRecCheck_s (G := G3) x.kind x.round x.node x.index x.cmd hcok.1 Ai x.image.length ci (by omega)
    have qh := hasCmd_s G3 x.kind
    have na := ht.na
    have nc := ht.nc
    have qwa := refWith_s (entOf x) ha ht.ra (by omega)
    have qwc := refWith_s (entOf x) hc ht.rc (by omega)
    have qf := refEntFind_s x.index hc ht.rc
    have hbi := hitB_iff ht.rc x.index
    have hwa := withL_ins ht.ra (entOf x)
    have hwc := withL_ins ht.rc (entOf x)
    generalize (l.take k).foldl (accS H.base) [] = acc at *
    generalize (l.take k).foldl (choS H.base) [] = cho at *
    by_cases hsame : ¬ (chkI x = 0 ∧ (x.kind = 2 ∨ x.kind = 3) ∧ H.base < x.index)
    · have ea : accS H.base acc x = acc := by rw [accS, if_neg fun h => hsame ⟨h.1, .inl h.2.1, h.2.2⟩]
      have ec : choS H.base cho x = cho := by rw [choS, if_neg fun h => hsame ⟨h.1, .inr h.2.1, h.2.2⟩]
      rw [ea] at hfa
      rw [ec] at hfc
      have hfin : HdV G3 ⟨H.pr, H.pn, H.base, H.image, (l.take (k + 1)).foldl (accS H.base) [], (l.take (k + 1)).foldl (choS H.base) []⟩ (hdL H.pr H.pn H.base (.slice A0 H.image.length c0) (.slice A1 acc.length c1) (.slice A2 cho.length c2)) := by rw [hfa, hfc]; exact ⟨_, _, _, rfl, hi2, ha, hc⟩
      by_cases hv : chkI x = 0
      · rw [show recI x.kind x.round x.node x.index x.cmd x.image.length = 0 from hv] at qc
        have hsame' : ¬ ((x.kind = 2 ∨ x.kind = 3) ∧ H.base < x.index) := fun h => hsame ⟨hv, h⟩
        repeat' (first | apply v_seq | apply v_region | apply v_nil | apply v_skip | apply v_block | (apply v_exit; (case hp => rfl)) | (apply v_take; (case hg => rfl)) | (apply v_pass; (case hg => rfl); (case hn => rfl); (case hd => rfl)) | (apply v_pure; (case hop => first | (apply p_move <;> rfl) | (apply p_nes <;> rfl) | (apply p_lt <;> rfl) | (apply p_le <;> rfl) | (apply p_assign <;> rfl) | (apply p_pickT <;> rfl) | (apply p_pickF <;> rfl) | (apply p_not <;> rfl) | (apply p_lenSlice <;> rfl) | (apply p_fieldAddrB <;> rfl) | (apply p_add; (case hx => rfl); (case hy => rfl); (case h => omega)) | (apply p_indexAddrS; (case hx => rfl); (case hi => rfl); (case h0 => omega); (case h => omega); (case hA => first | (apply_assumption; omega))) | fail); (case hd => rfl)) | (apply v_condT; (case hc => rfl)) | (apply v_cond; (case hc => rfl); all_goals (intro h; (try simp only [reduceCtorEq, dec_true, dec_false, decide_eq_true_eq, decide_eq_false_iff_not, Bool.not_eq_true', Bool.not_eq_false', Option.isNone_iff_eq_none, beq_true, beq_false, beq_iff_eq, beq_eq_false_iff_ne, ne_eq, decide_eq_decide, Bool.not_eq_true, Bool.not_eq_false, Decidable.not_not] at h); first | (exfalso; omega) | skip)) | (apply v_guardB; (case h1 => rfl); (case h2 => rfl); all_goals (intro h; (try simp only [reduceCtorEq, dec_true, dec_false, decide_eq_true_eq, decide_eq_false_iff_not, Bool.not_eq_true', Bool.not_eq_false', Option.isNone_iff_eq_none, beq_true, beq_false, beq_iff_eq, beq_eq_false_iff_ne, ne_eq, decide_eq_decide, Bool.not_eq_true, Bool.not_eq_false, Decidable.not_not] at h); first | skip)) | (apply v_read; (case hop => first | (apply r_loadN; rfl; exact CellsAt.frozen hcx; rfl)); (case hd => rfl)) | (apply v_callJ (hs := qc); (case ha => rfl); (case hd => rfl)) | (apply v_callJ (hs := qh); (case ha => rfl); (case hd => rfl)) | (apply v_read; (case hop => first | (apply r_loadNo; (case hx => rfl); (case h => (repeat (first | exact List.Mem.head _ | fail))); (case hd => (repeat (first | with_reducible exact dt_nil | apply dt_here | fail))); (case hn => rfl)) | (apply r_load1; rfl; (apply Cell.own; (case h => (repeat (first | exact List.Mem.head _ | apply List.Mem.tail | fail))); rfl)) | fail); (case hd => rfl)) | (apply v_alloc; (case hz => rfl); (case hd => rfl); intro b) | (apply v_store; (case hp => rfl); (case hx => rfl); (case hc => rfl); (case hsz => rfl); (case h1 => rfl); (case hb => (repeat (first | exact List.Mem.head _ | fail))); (case hfit => first | exact Nat.le_of_ble_eq_true rfl | fail); (case hov => (first | ((repeat (first | with_reducible exact ov_nil | apply ov_cons | fail)); done) | fail)); (case hu => repeat (first | exact Upd.here _ _ | fail))) | fail)
        all_goals first
          | (exfalso; omega)
          | (refine v_drop (ν := [(hb, _), (ob, _)]) (by repeat (first | exact List.Sublist.refl _ | apply List.Sublist.cons | fail)) ?_
             exact v_again rfl ⟨hle, k + 1, _, by omega, rfl, rfl, hfin, ht'⟩ (by simp [headI]; omega))
      · have hv' : ¬ recI x.kind x.round x.node x.index x.cmd x.image.length = 0 := hv
        generalize recI x.kind x.round x.node x.index x.cmd x.image.length = I at *
        repeat' (first | apply v_seq | apply v_region | apply v_nil | apply v_skip | apply v_block | (apply v_exit; (case hp => rfl)) | (apply v_pass; (case hg => rfl); (case hn => rfl); (case hd => rfl)) | (apply v_pure; (case hop => first | (apply p_move <;> rfl) | (apply p_lt <;> rfl) | (apply p_ne <;> rfl) | (apply p_assign <;> rfl) | (apply p_pickT <;> rfl) | (apply p_lenSlice <;> rfl) | (apply p_add; (case hx => rfl); (case hy => rfl); (case h => omega)) | (apply p_indexAddrS; (case hx => rfl); (case hi => rfl); (case h0 => omega); (case h => omega); (case hA => first | (apply_assumption; omega))) | fail); (case hd => rfl)) | (apply v_condT; (case hc => rfl)) | (apply v_cond; (case hc => rfl); all_goals (intro h; (try simp only [reduceCtorEq, dec_true, dec_false, decide_eq_true_eq, decide_eq_false_iff_not, Bool.not_eq_true', Bool.not_eq_false', Option.isNone_iff_eq_none, beq_true, beq_false, beq_iff_eq, beq_eq_false_iff_ne, ne_eq, decide_eq_decide, Bool.not_eq_true, Bool.not_eq_false, Decidable.not_not] at h); first | (exfalso; omega) | skip)) | (apply v_guardB; (case h1 => rfl); (case h2 => rfl); all_goals (intro h; (try simp only [reduceCtorEq, dec_true, dec_false, decide_eq_true_eq, decide_eq_false_iff_not, Bool.not_eq_true', Bool.not_eq_false', Option.isNone_iff_eq_none, beq_true, beq_false, beq_iff_eq, beq_eq_false_iff_ne, ne_eq, decide_eq_decide, Bool.not_eq_true, Bool.not_eq_false, Decidable.not_not] at h); first | (exfalso; omega) | skip)) | (apply v_read; (case hop => first | (apply r_loadN; rfl; exact CellsAt.frozen hcx; rfl)); (case hd => rfl)) | (apply v_callJ (hs := qc); (case ha => rfl); (case hd => rfl)) | (apply v_read; (case hop => first | (apply r_loadNo; (case hx => rfl); (case h => (repeat (first | exact List.Mem.head _ | fail))); (case hd => (repeat (first | with_reducible exact dt_nil | apply dt_here | fail))); (case hn => rfl)) | fail); (case hd => rfl)) | (apply v_alloc; (case hz => rfl); (case hd => rfl); intro b) | (apply v_store; (case hp => rfl); (case hx => rfl); (case hc => rfl); (case hsz => rfl); (case h1 => rfl); (case hb => (repeat (first | exact List.Mem.head _ | fail))); (case hfit => first | exact Nat.le_of_ble_eq_true rfl | fail); (case hov => (first | ((repeat (first | with_reducible exact ov_nil | apply ov_cons | fail)); done) | fail)); (case hu => repeat (first | exact Upd.here _ _ | fail))) | fail)
        all_goals first
          | (exfalso; omega)
          | (refine v_drop (ν := [(hb, _), (ob, _)]) (by repeat (first | exact List.Sublist.refl _ | apply List.Sublist.cons | fail)) ?_
             exact v_again rfl ⟨hle, k + 1, _, by omega, rfl, rfl, hfin, ht'⟩ (by simp [headI]; omega))
    obtain ⟨hv, hk23, hlb⟩ := Decidable.not_not.1 hsame
    rw [show recI x.kind x.round x.node x.index x.cmd x.image.length = 0 from hv] at qc
    rw [decide_eq_true hk23] at qh
    by_cases k2 : x.kind = 2
    · have ea : accS H.base acc x = withL acc (entOf x) := by rw [accS, if_pos ⟨hv, k2, hlb⟩, hwa]
      have ec : choS H.base cho x = cho := by rw [choS, if_neg fun h => by omega]
      rw [ea] at hfa
      rw [ec] at hfc
      repeat' (first | apply v_seq | apply v_region | apply v_nil | apply v_skip | apply v_block | (apply v_take; (case hg => rfl)) | (apply v_pure; (case hop => first | (apply p_move <;> rfl) | (apply p_nes <;> rfl) | (apply p_eq <;> rfl) | (apply p_lt <;> rfl) | (apply p_le <;> rfl) | (apply p_pickF <;> rfl) | (apply p_not <;> rfl) | (apply p_lenSlice <;> rfl) | (apply p_fieldAddrB <;> rfl) | (apply p_indexAddrS; (case hx => rfl); (case hi => rfl); (case h0 => omega); (case h => omega); (case hA => first | (apply_assumption; omega))) | (apply p_build; (case hz => rfl); (case hv => (simp only [List.map_cons, List.map_nil]; repeat (first | with_reducible exact evs_nil | (apply evs_cons; (case h1 => rfl))))); (case hb => (apply bldL; repeat (first | exact bld_nil | (apply bld_cons; (case hpf => rfl); (case hc => rfl); (case hs => rfl); (case hl => rfl); (case ho => (first | ((repeat (first | with_reducible exact ov_nil | apply ov_cons | fail)); done) | fail))))))) | fail); (case hd => rfl)) | (apply v_condF; (case hc => rfl)) | (apply v_cond; (case hc => rfl); all_goals (intro h; (try simp only [reduceCtorEq, dec_true, dec_false, decide_eq_true_eq, decide_eq_false_iff_not, Bool.not_eq_true', Bool.not_eq_false', Option.isNone_iff_eq_none, beq_true, beq_false, beq_iff_eq, beq_eq_false_iff_ne, ne_eq, decide_eq_decide, Bool.not_eq_true, Bool.not_eq_false, Decidable.not_not] at h); first | (exfalso; omega) | skip)) | (apply v_guardB; (case h1 => rfl); (case h2 => rfl); all_goals (intro h; (try simp only [reduceCtorEq, dec_true, dec_false, decide_eq_true_eq, decide_eq_false_iff_not, Bool.not_eq_true', Bool.not_eq_false', Option.isNone_iff_eq_none, beq_true, beq_false, beq_iff_eq, beq_eq_false_iff_ne, ne_eq, decide_eq_decide, Bool.not_eq_true, Bool.not_eq_false, Decidable.not_not] at h); first | (exfalso; omega) | skip)) | (apply v_read; (case hop => first | (apply r_loadN; rfl; exact CellsAt.frozen hcx; rfl)); (case hd => rfl)) | (apply v_callJ (hs := qc); (case ha => rfl); (case hd => rfl)) | (apply v_callJ (hs := qh); (case ha => rfl); (case hd => rfl)) | (apply v_read; (case hop => first | (apply r_loadNo; (case hx => rfl); (case h => (repeat (first | exact List.Mem.head _ | fail))); (case hd => (repeat (first | with_reducible exact dt_nil | apply dt_here | fail))); (case hn => rfl)) | (apply r_load1; rfl; (apply Cell.own; (case h => (repeat (first | exact List.Mem.head _ | apply List.Mem.tail | fail))); rfl)) | fail); (case hd => rfl)) | (apply v_alloc; (case hz => rfl); (case hd => rfl); intro b) | (apply v_store; (case hp => rfl); (case hx => rfl); (case hc => rfl); (case hsz => rfl); (case h1 => rfl); (case hb => (repeat (first | exact List.Mem.head _ | fail))); (case hfit => first | exact Nat.le_of_ble_eq_true rfl | fail); (case hov => (first | ((repeat (first | with_reducible exact ov_nil | apply ov_cons | fail)); done) | fail)); (case hu => repeat (first | exact Upd.here _ _ | fail))) | fail)
      refine v_call (μ1 := []) (μ2 := _) rfl qwa (List.Perm.refl _) rfl ?_
      rintro r G4 ν - ⟨rfl, hg⟩
      obtain ⟨A5, c5, rfl, -, -⟩ := hg.shape
      repeat' (first | apply v_region | apply v_nil | apply v_blk | (apply v_pure; (case hop => first | (apply p_move <;> rfl) | (apply p_assign <;> rfl) | (apply p_fieldAddrB <;> rfl) | (apply p_add; (case hx => rfl); (case hy => rfl); (case h => omega)) | fail); (case hd => rfl)) | (apply v_store; (case hp => rfl); (case hx => rfl); (case hc => rfl); (case hsz => rfl); (case h1 => rfl); (case hb => (repeat (first | exact List.Mem.head _ | apply List.Mem.tail | apply List.mem_append_right))); (case hfit => first | exact Nat.le_of_ble_eq_true rfl | fail); (case hov => (first | ((repeat (first | with_reducible exact ov_nil | apply ov_cons | fail)); done) | fail)); (case hu => repeat (first | exact Upd.here _ _ | apply Upd.there | apply Upd.app))) | fail)
      refine v_frz ν (by repeat (first | exact PickA.here _ | fail)) ?_
      intro G5 hle5 hG5
      refine v_drop (ν := [(hb, _), (ob, _)]) (by repeat (first | exact List.Sublist.refl _ | apply List.Sublist.cons | fail)) ?_
      refine v_again rfl ⟨GH.le_trans hle hle5, k + 1, _, by omega, rfl, rfl, ?_, ht'⟩ (by simp [headI]; omega)
      rw [hfc, hfa]
      rw [hfa] at ht'
      exact ⟨_, _, _, rfl, hi2.mono hle5, es_of_grow hg hG5 ht'.oa, esle hc hle5⟩
    · have k3 : x.kind = 3 := by omega
      have ea : accS H.base acc x = acc := by rw [accS, if_neg fun h => k2 h.2.1]
      rw [ea] at hfa
      by_cases hb3 : hitB cho x.index = true
      · have ec : choS H.base cho x = cho := by rw [choS, if_pos ⟨hv, k3, hlb⟩, insN, if_pos (show ∃ y ∈ cho, y.index = (entOf x).index from hbi.1 hb3)]
        rw [ec] at hfc
        rw [if_pos hb3] at qf
        have hfin : HdV G3 ⟨H.pr, H.pn, H.base, H.image, (l.take (k + 1)).foldl (accS H.base) [], (l.take (k + 1)).foldl (choS H.base) []⟩ (hdL H.pr H.pn H.base (.slice A0 H.image.length c0) (.slice A1 acc.length c1) (.slice A2 cho.length c2)) := by rw [hfa, hfc]; exact ⟨_, _, _, rfl, hi2, ha, hc⟩
        repeat' (first | apply v_seq | apply v_region | apply v_nil | apply v_skip | apply v_block | apply v_blk | (apply v_take; (case hg => rfl)) | (apply v_pure; (case hop => first | (apply p_move <;> rfl) | (apply p_nes <;> rfl) | (apply p_eq <;> rfl) | (apply p_lt <;> rfl) | (apply p_le <;> rfl) | (apply p_assign <;> rfl) | (apply p_pickF <;> rfl) | (apply p_not <;> rfl) | (apply p_lenSlice <;> rfl) | (apply p_fieldAddrB <;> rfl) | (apply p_add; (case hx => rfl); (case hy => rfl); (case h => omega)) | (apply p_indexAddrS; (case hx => rfl); (case hi => rfl); (case h0 => omega); (case h => omega); (case hA => first | (apply_assumption; omega))) | (apply p_build; (case hz => rfl); (case hv => (simp only [List.map_cons, List.map_nil]; repeat (first | with_reducible exact evs_nil | (apply evs_cons; (case h1 => rfl))))); (case hb => (apply bldL; repeat (first | exact bld_nil | (apply bld_cons; (case hpf => rfl); (case hc => rfl); (case hs => rfl); (case hl => rfl); (case ho => (first | ((repeat (first | with_reducible exact ov_nil | apply ov_cons | fail)); done) | fail))))))) | fail); (case hd => rfl)) | (apply v_condF; (case hc => rfl)) | (apply v_cond; (case hc => rfl); all_goals (intro h; (try simp only [reduceCtorEq, dec_true, dec_false, decide_eq_true_eq, decide_eq_false_iff_not, Bool.not_eq_true', Bool.not_eq_false', Option.isNone_iff_eq_none, beq_true, beq_false, beq_iff_eq, beq_eq_false_iff_ne, ne_eq, decide_eq_decide, Bool.not_eq_true, Bool.not_eq_false, Decidable.not_not] at h); first | (exfalso; omega) | skip)) | (apply v_guardB; (case h1 => rfl); (case h2 => rfl); all_goals (intro h; (try simp only [reduceCtorEq, dec_true, dec_false, decide_eq_true_eq, decide_eq_false_iff_not, Bool.not_eq_true', Bool.not_eq_false', Option.isNone_iff_eq_none, beq_true, beq_false, beq_iff_eq, beq_eq_false_iff_ne, ne_eq, decide_eq_decide, Bool.not_eq_true, Bool.not_eq_false, Decidable.not_not] at h); first | (exfalso; omega) | skip)) | (apply v_read; (case hop => first | (apply r_loadN; rfl; exact CellsAt.frozen hcx; rfl)); (case hd => rfl)) | (apply v_callJ (hs := qc); (case ha => rfl); (case hd => rfl)) | (apply v_callJ (hs := qh); (case ha => rfl); (case hd => rfl)) | (apply v_callJ (hs := qf); (case ha => rfl); (case hd => rfl)) | (apply v_read; (case hop => first | (apply r_loadNo; (case hx => rfl); (case h => (repeat (first | exact List.Mem.head _ | fail))); (case hd => (repeat (first | with_reducible exact dt_nil | apply dt_here | fail))); (case hn => rfl)) | (apply r_load1; rfl; (apply Cell.own; (case h => (repeat (first | exact List.Mem.head _ | apply List.Mem.tail | fail))); rfl)) | fail); (case hd => rfl)) | (apply v_alloc; (case hz => rfl); (case hd => rfl); intro b) | (apply v_store; (case hp => rfl); (case hx => rfl); (case hc => rfl); (case hsz => rfl); (case h1 => rfl); (case hb => (repeat (first | exact List.Mem.head _ | fail))); (case hfit => first | exact Nat.le_of_ble_eq_true rfl | fail); (case hov => (first | ((repeat (first | with_reducible exact ov_nil | apply ov_cons | fail)); done) | fail)); (case hu => repeat (first | exact Upd.here _ _ | fail))) | fail)
        refine v_drop (ν := [(hb, _), (ob, _)]) (by repeat (first | exact List.Sublist.refl _ | apply List.Sublist.cons | fail)) ?_
        refine v_again rfl ⟨hle, k + 1, _, by omega, rfl, rfl, hfin, ht'⟩ (by simp [headI]; omega)
      · have ec : choS H.base cho x = withL cho (entOf x) := by rw [choS, if_pos ⟨hv, k3, hlb⟩, insN, if_neg (show ¬ ∃ y ∈ cho, y.index = (entOf x).index from fun h => hb3 (hbi.2 h)), hwc]
        rw [ec] at hfc
        rw [if_neg hb3] at qf
        repeat' (first | apply v_seq | apply v_region | apply v_nil | apply v_skip | apply v_block | (apply v_take; (case hg => rfl)) | (apply v_pure; (case hop => first | (apply p_move <;> rfl) | (apply p_nes <;> rfl) | (apply p_eq <;> rfl) | (apply p_lt <;> rfl) | (apply p_le <;> rfl) | (apply p_pickF <;> rfl) | (apply p_not <;> rfl) | (apply p_lenSlice <;> rfl) | (apply p_fieldAddrB <;> rfl) | (apply p_indexAddrS; (case hx => rfl); (case hi => rfl); (case h0 => omega); (case h => omega); (case hA => first | (apply_assumption; omega))) | (apply p_build; (case hz => rfl); (case hv => (simp only [List.map_cons, List.map_nil]; repeat (first | with_reducible exact evs_nil | (apply evs_cons; (case h1 => rfl))))); (case hb => (apply bldL; repeat (first | exact bld_nil | (apply bld_cons; (case hpf => rfl); (case hc => rfl); (case hs => rfl); (case hl => rfl); (case ho => (first | ((repeat (first | with_reducible exact ov_nil | apply ov_cons | fail)); done) | fail))))))) | fail); (case hd => rfl)) | (apply v_condF; (case hc => rfl)) | (apply v_cond; (case hc => rfl); all_goals (intro h; (try simp only [reduceCtorEq, dec_true, dec_false, decide_eq_true_eq, decide_eq_false_iff_not, Bool.not_eq_true', Bool.not_eq_false', Option.isNone_iff_eq_none, beq_true, beq_false, beq_iff_eq, beq_eq_false_iff_ne, ne_eq, decide_eq_decide, Bool.not_eq_true, Bool.not_eq_false, Decidable.not_not] at h); first | (exfalso; omega) | skip)) | (apply v_guardB; (case h1 => rfl); (case h2 => rfl); all_goals (intro h; (try simp only [reduceCtorEq, dec_true, dec_false, decide_eq_true_eq, decide_eq_false_iff_not, Bool.not_eq_true', Bool.not_eq_false', Option.isNone_iff_eq_none, beq_true, beq_false, beq_iff_eq, beq_eq_false_iff_ne, ne_eq, decide_eq_decide, Bool.not_eq_true, Bool.not_eq_false, Decidable.not_not] at h); first | (exfalso; omega) | skip)) | (apply v_read; (case hop => first | (apply r_loadN; rfl; exact CellsAt.frozen hcx; rfl)); (case hd => rfl)) | (apply v_callJ (hs := qc); (case ha => rfl); (case hd => rfl)) | (apply v_callJ (hs := qh); (case ha => rfl); (case hd => rfl)) | (apply v_callJ (hs := qf); (case ha => rfl); (case hd => rfl)) | (apply v_read; (case hop => first | (apply r_loadNo; (case hx => rfl); (case h => (repeat (first | exact List.Mem.head _ | fail))); (case hd => (repeat (first | with_reducible exact dt_nil | apply dt_here | fail))); (case hn => rfl)) | (apply r_load1; rfl; (apply Cell.own; (case h => (repeat (first | exact List.Mem.head _ | apply List.Mem.tail | fail))); rfl)) | fail); (case hd => rfl)) | (apply v_alloc; (case hz => rfl); (case hd => rfl); intro b) | (apply v_store; (case hp => rfl); (case hx => rfl); (case hc => rfl); (case hsz => rfl); (case h1 => rfl); (case hb => (repeat (first | exact List.Mem.head _ | fail))); (case hfit => first | exact Nat.le_of_ble_eq_true rfl | fail); (case hov => (first | ((repeat (first | with_reducible exact ov_nil | apply ov_cons | fail)); done) | fail)); (case hu => repeat (first | exact Upd.here _ _ | fail))) | fail)
        refine v_call (μ1 := []) (μ2 := _) rfl qwc (List.Perm.refl _) rfl ?_
        rintro r G4 ν - ⟨rfl, hg⟩
        obtain ⟨A5, c5, rfl, -, -⟩ := hg.shape
        repeat' (first | apply v_region | apply v_nil | apply v_blk | (apply v_pure; (case hop => first | (apply p_move <;> rfl) | (apply p_assign <;> rfl) | (apply p_fieldAddrB <;> rfl) | (apply p_add; (case hx => rfl); (case hy => rfl); (case h => omega)) | fail); (case hd => rfl)) | (apply v_store; (case hp => rfl); (case hx => rfl); (case hc => rfl); (case hsz => rfl); (case h1 => rfl); (case hb => (repeat (first | exact List.Mem.head _ | apply List.Mem.tail | apply List.mem_append_right))); (case hfit => first | exact Nat.le_of_ble_eq_true rfl | fail); (case hov => (first | ((repeat (first | with_reducible exact ov_nil | apply ov_cons | fail)); done) | fail)); (case hu => repeat (first | exact Upd.here _ _ | apply Upd.there | apply Upd.app))) | fail)
        refine v_frz ν (by repeat (first | exact PickA.here _ | fail)) ?_
        intro G5 hle5 hG5
        refine v_drop (ν := [(hb, _), (ob, _)]) (by repeat (first | exact List.Sublist.refl _ | apply List.Sublist.cons | fail)) ?_
        refine v_again rfl ⟨GH.le_trans hle hle5, k + 1, _, by omega, rfl, rfl, ?_, ht'⟩ (by simp [headI]; omega)
        rw [hfc, hfa]
        rw [hfc] at ht'
        exact ⟨_, _, _, rfl, hi2.mono hle5, esle ha hle5, es_of_grow hg hG5 ht'.oc⟩
  · obtain rfl : k = l.length := by omega
    rw [List.take_length] at ha hc ⊢
    repeat' (first | apply v_seq | apply v_region | apply v_nil | (apply v_exit; (case hp => rfl)) | (apply v_pure; (case hop => first | (apply p_move <;> rfl) | (apply p_lt <;> rfl) | (apply p_lenSlice <;> rfl) | fail); (case hd => rfl)) | (apply v_cond; (case hc => rfl); all_goals (intro h; (try simp only [reduceCtorEq, dec_true, dec_false, decide_eq_true_eq, decide_eq_false_iff_not, Bool.not_eq_true', Bool.not_eq_false', Option.isNone_iff_eq_none, beq_true, beq_false, beq_iff_eq, beq_eq_false_iff_ne, ne_eq, decide_eq_decide, Bool.not_eq_true, Bool.not_eq_false, Decidable.not_not] at h); first | (exfalso; omega) | skip)) | (apply v_read; (case hop => first | (apply r_loadNo; (case hx => rfl); (case h => (repeat (first | exact List.Mem.head _ | fail))); (case hd => (repeat (first | with_reducible exact dt_nil | apply dt_here | fail))); (case hn => rfl)) | fail); (case hd => rfl)) | (apply v_store; (case hp => rfl); (case hx => rfl); (case hc => rfl); (case hsz => rfl); (case h1 => rfl); (case hb => (repeat (first | exact List.Mem.head _ | apply List.Mem.tail | fail))); (case hfit => first | exact Nat.le_of_ble_eq_true rfl | fail); (case hov => (first | ((repeat (first | with_reducible exact ov_nil | apply ov_cons | fail)); done) | fail)); (case hu => repeat (first | exact Upd.here _ _ | apply Upd.there | fail))) | fail)
    refine v_retM [] (outsM_cell (vs := hdL H.pr H.pn H.base (.slice A0 H.image.length c0) (.slice A1 (l.foldl (accS H.base) []).length c1) (.slice A2 (l.foldl (choS H.base) []).length c2)) (e := 42) rfl rfl (by repeat (first | exact List.Mem.head _ | apply List.Mem.tail)) rfl) (by repeat (first | exact List.nil_sublist _ | fail)) ?_
    exact ⟨rfl, _, rfl, _, _, _, rfl, hi2, ha, hc⟩
end Go.Proofs.YtnoiahlpmgbhfaaDoor
/-
  hard (layer 19), the tenth part: too large ones; two that are the same; one that may be.
-/
set_option linter.unusedSimpArgs false
set_option linter.unusedVariables false
namespace Go.Proofs.YtnoiahlpmgbhfaaDoor
open Go.Vx Go.ChangeShapes Go.WideShapes Go.ChangeAt Go.RowKit
theorem hSame_s {G : GH} {H : Hd} {L L' : List Value} (h1 : HdV G H L) (h2 : HdV G H L') : Con Tryd.prog 20 #[.agg L.toArray, .agg L'.toArray] G [] (Just (.bool true) G) := by
  obtain ⟨iv, av, cv, rfl, hi, ha, hc⟩ := h1
  obtain ⟨iv', av', cv', rfl, hi', ha', hc'⟩ := h2
  have q1 := bSame_s hi hi'
  have q2 := entSame_s ha ha'
  have q3 := entSame_s hc hc'
  rw [decide_eq_true rfl] at q1 q2 q3
  obtain ⟨A0, c0, rfl, -⟩ := hi.openInt
  obtain ⟨A1, c1, rfl, -⟩ := ha.open
  obtain ⟨A2, c2, rfl, -⟩ := hc.open
  obtain ⟨B0, d0, rfl, -⟩ := hi'.openInt
  obtain ⟨B1, d1, rfl, -⟩ := ha'.open
  obtain ⟨B2, d2, rfl, -⟩ := hc'.open
  apply Con.just
  refine v_enter Tryd.func20 rfl Tryd.ntmps20 rfl (fun B => ?_)
  repeat' (first | (apply v_pure; (case hop => (apply eqBal; (case hx => rfl); (case hy => rfl))); (case hd => rfl)) | apply v_seq | apply v_region | apply v_nil | (apply v_take; (case hg => rfl)) | (apply v_pass; (case hg => rfl); (case hn => rfl); (case hd => rfl)) | (apply v_pure; (case hop => first | (apply p_move <;> rfl) | (apply p_eqs <;> rfl) | (apply p_assign <;> rfl) | (apply p_pickT <;> rfl) | (apply p_pickF <;> rfl) | (apply p_fieldAddrB <;> rfl) | fail); (case hd => rfl)) | (apply v_guardB; (case h1 => rfl); (case h2 => rfl); all_goals (intro h; (try simp only [reduceCtorEq, dec_true, dec_false, decide_eq_true_eq, decide_eq_false_iff_not, Bool.not_eq_true', Bool.not_eq_false', Option.isNone_iff_eq_none, beq_true, beq_false, beq_iff_eq, beq_eq_false_iff_ne, ne_eq, decide_eq_decide, Bool.not_eq_true, Bool.not_eq_false, Decidable.not_not] at h); first | skip)) | (apply v_callJ (hs := q1); (case ha => rfl); (case hd => rfl)) | (apply v_callJ (hs := q2); (case ha => rfl); (case hd => rfl)) | (apply v_callJ (hs := q3); (case ha => rfl); (case hd => rfl)) | (apply v_read; (case hop => first | (apply r_loadNo; (case hx => rfl); (case h => (repeat (first | exact List.Mem.head _ | apply List.Mem.tail | fail))); (case hd => (repeat (first | with_reducible exact dt_nil | apply dt_here | fail))); (case hn => rfl)) | (apply r_load1; rfl; (apply Cell.own; (case h => (repeat (first | exact List.Mem.head _ | apply List.Mem.tail | fail))); rfl)) | fail); (case hd => rfl)) | (apply v_box; (case hx => rfl); (case hz => rfl); (case hd => rfl); intro b) | fail)
  · refine v_ret [] (outsA1 rfl rfl) (by repeat (first | exact List.nil_sublist _ | fail)) ?_
    exact ⟨rfl, rfl⟩
  · exact absurd ⟨trivial, trivial⟩ ‹¬ (True ∧ True)›
theorem neBoolF {σ : Env} {ty t t' : TypeId} {a b : Operand} {x y : Bool} [Ty Tryd.prog t .bool] (h : x = y) (hx : Env.ev σ a = some (.bool x)) (hy : Env.ev σ b = some (.bool y)) : PureOp Tryd.prog (.binOp .neq t a b t') ty σ (.bool false) := by
  subst h
  exact p_neBs hx hy
theorem hCheck_s {G : GH} {H : Hd} {L : List Value} {n : Nat} (hh : HdV G H L) (g : Good n H) : Con Tryd.prog 22 #[.agg L.toArray] G [] (Just (.bool true) G) := by
  obtain ⟨iv, av, cv, rfl, hi, ha, hc⟩ := hh
  have qa := refEntCheck_s ha
  have qc := refEntCheck_s hc
  rw [chk_of (fun x hx => (g.acc x hx).1) g.racc _ 0 rfl] at qa
  rw [chk_of (fun x hx => (g.cho x hx).1) g.rcho _ 0 rfl] at qc
  have qm := refMay_s G H.pr H.pn
  rw [decide_eq_true g.may] at qm
  obtain ⟨A0, c0, rfl, hl0, hm0, -⟩ := hi.openInt
  obtain ⟨A1, c1, rfl, hl1, hm1, hs1, hcp1, hcb1, -, -⟩ := esOpen ha
  obtain ⟨A2, c2, rfl, hl2, hm2, hs2, hcp2, hcb2, -, -⟩ := esOpen hc
  simp only [maxLen] at hm0 hm1 hm2
  have hb := g.base
  have him := g.img
  have hbi : dec (0 < H.base) = dec (0 < (H.image.length : Int)) := by
    rw [dec_eq, dec_eq]
    congr 1
    rw [eq_iff_iff]
    omega
  apply Con.just
  refine v_enter Tryd.func22 rfl Tryd.ntmps22 rfl (fun B => ?_)
  repeat' (first | (apply v_pure; (case hop => (apply neBoolF (h := hbi); (case hx => rfl); (case hy => rfl))); (case hd => rfl)) | apply v_seq | apply v_region | apply v_nil | apply v_skip | apply v_block | (apply v_take; (case hg => rfl)) | (apply v_pure; (case hop => first | (apply p_move <;> rfl) | (apply p_nes <;> rfl) | (apply p_lt <;> rfl) | (apply p_gt <;> rfl) | (apply p_assign <;> rfl) | (apply p_pickF <;> rfl) | (apply p_not <;> rfl) | (apply p_lenSlice <;> rfl) | (apply p_fieldAddrB <;> rfl) | fail); (case hd => rfl)) | (apply v_condF; (case hc => rfl)) | (apply v_guardB; (case h1 => rfl); (case h2 => rfl); all_goals (intro h; (try simp only [reduceCtorEq, dec_true, dec_false, decide_eq_true_eq, decide_eq_false_iff_not, Bool.not_eq_true', Bool.not_eq_false', Option.isNone_iff_eq_none, beq_true, beq_false, beq_iff_eq, beq_eq_false_iff_ne, ne_eq, decide_eq_decide, Bool.not_eq_true, Bool.not_eq_false, Decidable.not_not] at h); first | (exfalso; omega) | skip)) | (apply v_callJ (hs := qm); (case ha => rfl); (case hd => rfl)) | (apply v_callJ (hs := qa); (case ha => rfl); (case hd => rfl)) | (apply v_callJ (hs := qc); (case ha => rfl); (case hd => rfl)) | (apply v_read; (case hop => first | (apply r_loadNo; (case hx => rfl); (case h => (repeat (first | exact List.Mem.head _ | fail))); (case hd => (repeat (first | with_reducible exact dt_nil | apply dt_here | fail))); (case hn => rfl)) | (apply r_load1; rfl; (apply Cell.own; (case h => (repeat (first | exact List.Mem.head _ | fail))); rfl)) | fail); (case hd => rfl)) | (apply v_box; (case hx => rfl); (case hz => rfl); (case hd => rfl); intro b) | fail)
  rename Nat => hb'
  refine v_loop [3, 1] (fun us G' μ' => G' = G ∧ μ' = [(hb', hardO (hdL H.pr H.pn H.base (.slice A0 H.image.length c0) (.slice A1 H.acc.length c1) (.slice A2 H.cho.length c2)))] ∧ ∃ k, k ≤ H.acc.length ∧ us = [Value.int .i64 (k : Nat), .pointer (some ⟨hb', 0, none⟩)]) (fun us => H.acc.length - (headI us).toNat) rfl ⟨rfl, rfl, 0, by omega, rfl⟩ ?_
  rintro us G' μ' ⟨rfl, rfl, k, hk, rfl⟩
  by_cases hlt : k < H.acc.length
  · have e1 : ((k : Nat) : Int).toNat = k := by omega
    have hg := g.acc _ (List.getElem_mem hlt)
    have kc0 : GH.cell? G' (((adr A1).add (k * 10)).add 0) = some (.int .i64 (H.acc[k]).index) := (hcp1 k hlt).cell (j := 0) rfl
    have kc1 := hcb1 k hlt
    generalize hxe : H.acc[k] = e at *
    obtain ⟨-, -, hg1, hg2, hg3⟩ := hg
    have ql := refLess_s G' H.pr H.pn e.round e.node
    rw [decide_eq_false hg3] at ql
    have hA := hs1 (by omega)
    repeat' (first | apply v_seq | apply v_region | apply v_nil | apply v_skip | apply v_block | (apply v_pure; (case hop => first | (apply p_move <;> rfl) | (apply p_lt <;> rfl) | (apply p_lenSlice <;> rfl) | (apply p_fieldAddrB <;> rfl) | (apply p_fieldAddr <;> rfl) | (apply p_indexAddrS; (case hx => rfl); (case hi => rfl); (case h0 => omega); (case h => omega); (case hA => first | assumption | fail)) | fail); (case hd => rfl)) | (apply v_cond; (case hc => rfl); all_goals (intro h; (try simp only [reduceCtorEq, dec_true, dec_false, decide_eq_true_eq, decide_eq_false_iff_not, Bool.not_eq_true', Bool.not_eq_false', Option.isNone_iff_eq_none, beq_true, beq_false, beq_iff_eq, beq_eq_false_iff_ne, ne_eq, decide_eq_decide, Bool.not_eq_true, Bool.not_eq_false, Decidable.not_not] at h); first | (exfalso; omega) | skip)) | (apply v_read; (case hop => first | (apply r_loadN; rfl; exact CellsAt.frozen kc1; rfl)); (case hd => rfl)) | (apply v_read; (case hop => first | (apply r_load1; rfl; (apply Cell.own; (case h => (repeat (first | exact List.Mem.head _ | fail))); rfl)) | fail); (case hd => rfl)) | (apply v_alloc; (case hz => rfl); (case hd => rfl); intro b) | (apply v_store; (case hp => rfl); (case hx => rfl); (case hc => rfl); (case hsz => rfl); (case h1 => rfl); (case hb => (repeat (first | exact List.Mem.head _ | fail))); (case hfit => first | exact Nat.le_of_ble_eq_true rfl | fail); (case hov => (first | ((repeat (first | with_reducible exact ov_nil | apply ov_cons | fail)); done) | fail)); (case hu => repeat (first | exact Upd.here _ _ | fail))) | fail)
    refine d_start _ (by kernel_rfl) (by kernel_rfl) (fun _ he => he) ?_
    all_goals (first | (apply d_take 0; (case hi => rfl); (case hop => first | (apply PureOp.read; apply p_fieldAddrB <;> rfl) | fail); (case hf => kernel_rfl); (case hr => kernel_rfl); (case hd => rfl)) | fail)
    all_goals (first | (apply d_take 1; (case hi => rfl); (case hop => first | (apply r_load1; rfl; (apply Cell.own; (case h => (repeat (first | exact List.Mem.head _ | apply List.Mem.tail | fail))); rfl)) | fail); (case hf => kernel_rfl); (case hr => kernel_rfl); (case hd => rfl)) | fail)
    all_goals (first | (apply d_take 2; (case hi => rfl); (case hop => first | (apply PureOp.read; apply p_move <;> rfl)); (case hf => kernel_rfl); (case hr => kernel_rfl); (case hd => rfl)) | fail)
    all_goals (first | (apply d_take 3; (case hi => rfl); (case hop => first | (apply PureOp.read; apply p_indexAddrS; (case hx => rfl); (case hi => rfl); (case h0 => omega); (case h => omega); (case hA => first | assumption | fail))); (case hf => kernel_rfl); (case hr => kernel_rfl); (case hd => rfl)) | fail)
    all_goals (first | (apply d_take 4; (case hi => rfl); (case hop => first | (apply PureOp.read; apply p_fieldAddr <;> rfl)); (case hf => kernel_rfl); (case hr => kernel_rfl); (case hd => rfl)) | fail)
    all_goals (first | (apply d_take 5; (case hi => rfl); (case hop => first | ((apply r_load1; rfl; exact Cell.frozen kc0)) | fail); (case hf => kernel_rfl); (case hr => kernel_rfl); (case hd => rfl)) | fail)
    all_goals (first | (apply d_take 6; (case hi => rfl); (case hop => first | (apply PureOp.read; apply p_fieldAddrB <;> rfl) | fail); (case hf => kernel_rfl); (case hr => kernel_rfl); (case hd => rfl)) | fail)
    all_goals (first | (apply d_take 7; (case hi => rfl); (case hop => first | (apply r_load1; rfl; (apply Cell.own; (case h => (repeat (first | exact List.Mem.head _ | apply List.Mem.tail | fail))); rfl)) | fail); (case hf => kernel_rfl); (case hr => kernel_rfl); (case hd => rfl)) | fail)
    all_goals (first | (apply d_take 8; (case hi => rfl); (case hop => first | (apply PureOp.read; apply p_le <;> rfl)); (case hf => kernel_rfl); (case hr => kernel_rfl); (case hd => rfl)) | fail)
    all_goals (first | (apply d_take 9; (case hi => rfl); (case hop => first | (apply PureOp.read; apply p_move <;> rfl)); (case hf => kernel_rfl); (case hr => kernel_rfl); (case hd => rfl)) | fail)
    all_goals (try (apply d_guardB 10; (case hi => rfl); (case hgd => rfl); (case h1 => rfl); (case h2 => first | rfl); all_goals (intro h; (try simp only [reduceCtorEq, dec_true, dec_false, decide_eq_true_eq, decide_eq_false_iff_not, Bool.not_eq_true', Bool.not_eq_false', Option.isNone_iff_eq_none, beq_true, beq_false, beq_iff_eq, beq_eq_false_iff_ne, ne_eq, decide_eq_decide, Bool.not_eq_true, Bool.not_eq_false, Decidable.not_not] at h); first | (exfalso; omega) | skip)))
    all_goals (first | (apply d_takeG 10; (case hi => rfl); (case hg => rfl); (case hop => first | (apply PureOp.read; apply p_fieldAddrB <;> rfl) | fail); (case hf => kernel_rfl); (case hr => kernel_rfl); (case hd => rfl)) | fail)
    all_goals (try (apply d_guardB 11; (case hi => rfl); (case hgd => rfl); (case h1 => rfl); (case h2 => first | rfl); all_goals (intro h; (try simp only [reduceCtorEq, dec_true, dec_false, decide_eq_true_eq, decide_eq_false_iff_not, Bool.not_eq_true', Bool.not_eq_false', Option.isNone_iff_eq_none, beq_true, beq_false, beq_iff_eq, beq_eq_false_iff_ne, ne_eq, decide_eq_decide, Bool.not_eq_true, Bool.not_eq_false, Decidable.not_not] at h); first | done | skip)))
    all_goals (first | (apply d_takeG 11; (case hi => rfl); (case hg => rfl); (case hop => first | (apply r_load1; rfl; (apply Cell.own; (case h => (repeat (first | exact List.Mem.head _ | fail))); rfl)) | fail); (case hf => kernel_rfl); (case hr => kernel_rfl); (case hd => rfl)) | fail)
    all_goals (try (apply d_guardB 12; (case hi => rfl); (case hgd => rfl); (case h1 => rfl); (case h2 => first | rfl); all_goals (intro h; (try simp only [reduceCtorEq, dec_true, dec_false, decide_eq_true_eq, decide_eq_false_iff_not, Bool.not_eq_true', Bool.not_eq_false', Option.isNone_iff_eq_none, beq_true, beq_false, beq_iff_eq, beq_eq_false_iff_ne, ne_eq, decide_eq_decide, Bool.not_eq_true, Bool.not_eq_false, Decidable.not_not] at h); first | done | skip)))
    all_goals (first | (apply d_takeG 12; (case hi => rfl); (case hg => rfl); (case hop => first | (apply PureOp.read; apply p_eq <;> rfl) | fail); (case hf => kernel_rfl); (case hr => kernel_rfl); (case hd => rfl)) | fail)
    all_goals (first | (apply d_take 13; (case hi => rfl); (case hop => first | (apply PureOp.read; apply p_pickF <;> rfl) | fail); (case hf => kernel_rfl); (case hr => kernel_rfl); (case hd => rfl)) | fail)
    all_goals (first | (apply d_take 14; (case hi => rfl); (case hop => first | (apply PureOp.read; apply p_move <;> rfl)); (case hf => kernel_rfl); (case hr => kernel_rfl); (case hd => rfl)) | fail)
    all_goals (try (apply d_guardB 15; (case hi => rfl); (case hgd => rfl); (case h1 => rfl); (case h2 => first | rfl); all_goals (intro h; (try simp only [reduceCtorEq, dec_true, dec_false, decide_eq_true_eq, decide_eq_false_iff_not, Bool.not_eq_true', Bool.not_eq_false', Option.isNone_iff_eq_none, beq_true, beq_false, beq_iff_eq, beq_eq_false_iff_ne, ne_eq, decide_eq_decide, Bool.not_eq_true, Bool.not_eq_false, Decidable.not_not] at h); first | (exfalso; omega) | skip)))
    all_goals (first | (apply d_takeG 15; (case hi => rfl); (case hg => rfl); (case hop => first | (apply PureOp.read; apply p_fieldAddrB <;> rfl) | fail); (case hf => kernel_rfl); (case hr => kernel_rfl); (case hd => rfl)) | fail)
    all_goals (try (apply d_guardB 16; (case hi => rfl); (case hgd => rfl); (case h1 => rfl); (case h2 => first | rfl); all_goals (intro h; (try simp only [reduceCtorEq, dec_true, dec_false, decide_eq_true_eq, decide_eq_false_iff_not, Bool.not_eq_true', Bool.not_eq_false', Option.isNone_iff_eq_none, beq_true, beq_false, beq_iff_eq, beq_eq_false_iff_ne, ne_eq, decide_eq_decide, Bool.not_eq_true, Bool.not_eq_false, Decidable.not_not] at h); first | done | skip)))
    all_goals (first | (apply d_takeG 16; (case hi => rfl); (case hg => rfl); (case hop => first | (apply r_loadNo; (case hx => rfl); (case h => (repeat (first | exact List.Mem.head _ | apply List.Mem.tail | fail))); (case hd => (repeat (first | with_reducible exact dt_nil | apply dt_here | fail))); (case hn => rfl)) | fail); (case hf => kernel_rfl); (case hr => kernel_rfl); (case hd => rfl)) | fail)
    all_goals (try (apply d_guardB 17; (case hi => rfl); (case hgd => rfl); (case h1 => rfl); (case h2 => first | rfl); all_goals (intro h; (try simp only [reduceCtorEq, dec_true, dec_false, decide_eq_true_eq, decide_eq_false_iff_not, Bool.not_eq_true', Bool.not_eq_false', Option.isNone_iff_eq_none, beq_true, beq_false, beq_iff_eq, beq_eq_false_iff_ne, ne_eq, decide_eq_decide, Bool.not_eq_true, Bool.not_eq_false, Decidable.not_not] at h); first | done | skip)))
    all_goals (first | (apply d_takeG 17; (case hi => rfl); (case hg => rfl); (case hop => first | (apply r_loadNo; (case hx => rfl); (case h => (repeat (first | exact List.Mem.head _ | fail))); (case hd => (repeat (first | with_reducible exact dt_nil | apply dt_here | fail))); (case hn => rfl)) | fail); (case hf => kernel_rfl); (case hr => kernel_rfl); (case hd => rfl)) | fail)
    all_goals (try (apply d_guardB 18; (case hi => rfl); (case hgd => rfl); (case h1 => rfl); (case h2 => first | rfl); all_goals (intro h; (try simp only [reduceCtorEq, dec_true, dec_false, decide_eq_true_eq, decide_eq_false_iff_not, Bool.not_eq_true', Bool.not_eq_false', Option.isNone_iff_eq_none, beq_true, beq_false, beq_iff_eq, beq_eq_false_iff_ne, ne_eq, decide_eq_decide, Bool.not_eq_true, Bool.not_eq_false, Decidable.not_not] at h); first | done | skip)))
    all_goals (first | (apply d_callJG 18 (hs := ql); (case hi => rfl); (case hg => rfl); (case hr => kernel_rfl); (case ha => rfl); (case hd => rfl)) | fail)
    all_goals (first | (apply d_take 19; (case hi => rfl); (case hop => first | (apply PureOp.read; apply p_pickF <;> rfl) | fail); (case hf => kernel_rfl); (case hr => kernel_rfl); (case hd => rfl)) | fail)
    all_goals (apply d_done; (case hr => kernel_rfl))
    repeat' (first | apply v_region | apply v_nil | apply v_skip | apply v_blk | (apply v_pure; (case hop => first | (apply p_move <;> rfl) | (apply p_assign <;> rfl) | (apply p_add; (case hx => rfl); (case hy => rfl); (case h => omega)) | fail); (case hd => rfl)) | (apply v_condF; (case hc => rfl)) | fail)
    refine v_drop (ν := [(hb', _)]) (by repeat (first | exact List.Sublist.refl _ | apply List.Sublist.cons | fail)) ?_
    refine v_again rfl ⟨rfl, rfl, k + 1, by omega, rfl⟩ (by simp [headI]; omega)
  repeat' (first | apply v_seq | apply v_region | apply v_nil | apply v_block | (apply v_exit; (case hp => rfl)) | (apply v_pure; (case hop => first | (apply p_move <;> rfl) | (apply p_lt <;> rfl) | (apply p_assign <;> rfl) | (apply p_lenSlice <;> rfl) | (apply p_fieldAddrB <;> rfl) | fail); (case hd => rfl)) | (apply v_cond; (case hc => rfl); all_goals (intro h; (try simp only [reduceCtorEq, dec_true, dec_false, decide_eq_true_eq, decide_eq_false_iff_not, Bool.not_eq_true', Bool.not_eq_false', Option.isNone_iff_eq_none, beq_true, beq_false, beq_iff_eq, beq_eq_false_iff_ne, ne_eq, decide_eq_decide, Bool.not_eq_true, Bool.not_eq_false, Decidable.not_not] at h); first | (exfalso; omega) | skip)) | (apply v_read; (case hop => first | (apply r_load1; rfl; (apply Cell.own; (case h => (repeat (first | exact List.Mem.head _ | fail))); rfl)) | fail); (case hd => rfl)) | fail)
  refine v_loop [5, 1] (fun us G2 μ' => G2 = G' ∧ μ' = [(hb', hardO (hdL H.pr H.pn H.base (.slice A0 H.image.length c0) (.slice A1 H.acc.length c1) (.slice A2 H.cho.length c2)))] ∧ ∃ k, k ≤ H.cho.length ∧ us = [Value.int .i64 (k : Nat), .pointer (some ⟨hb', 0, none⟩)]) (fun us => H.cho.length - (headI us).toNat) rfl ⟨rfl, rfl, 0, by omega, rfl⟩ ?_
  rintro us G2 μ' ⟨rfl, rfl, k, hk, rfl⟩
  by_cases hlt : k < H.cho.length
  · have e1 : ((k : Nat) : Int).toNat = k := by omega
    have hg := g.cho _ (List.getElem_mem hlt)
    have kc0 : GH.cell? G2 (((adr A2).add (k * 10)).add 0) = some (.int .i64 (H.cho[k]).index) := (hcp2 k hlt).cell (j := 0) rfl
    have kc1 : GH.cell? G2 ((((adr A2).add (k * 10)).add 1).add 0) = some (.int .i64 (H.cho[k]).round) := (hcb2 k hlt).cell (j := 0) rfl
    generalize hxe : H.cho[k] = e at *
    obtain ⟨-, -, hg1, hg2, hg3⟩ := hg
    have hA := hs2 (by omega)
    repeat' (first | apply v_seq | apply v_region | apply v_nil | apply v_skip | apply v_block | (apply v_pure; (case hop => first | (apply p_move <;> rfl) | (apply p_lt <;> rfl) | (apply p_lenSlice <;> rfl) | (apply p_fieldAddrB <;> rfl) | fail); (case hd => rfl)) | (apply v_cond; (case hc => rfl); all_goals (intro h; (try simp only [reduceCtorEq, dec_true, dec_false, decide_eq_true_eq, decide_eq_false_iff_not, Bool.not_eq_true', Bool.not_eq_false', Option.isNone_iff_eq_none, beq_true, beq_false, beq_iff_eq, beq_eq_false_iff_ne, ne_eq, decide_eq_decide, Bool.not_eq_true, Bool.not_eq_false, Decidable.not_not] at h); first | (exfalso; omega) | skip)) | (apply v_read; (case hop => first | (apply r_load1; rfl; (apply Cell.own; (case h => (repeat (first | exact List.Mem.head _ | fail))); rfl)) | fail); (case hd => rfl)) | fail)
    refine d_start _ (by kernel_rfl) (by kernel_rfl) (fun _ he => he) ?_
    all_goals (first | (apply d_take 0; (case hi => rfl); (case hop => first | (apply PureOp.read; apply p_fieldAddrB <;> rfl) | fail); (case hf => kernel_rfl); (case hr => kernel_rfl); (case hd => rfl)) | fail)
    all_goals (first | (apply d_take 1; (case hi => rfl); (case hop => first | (apply r_load1; rfl; (apply Cell.own; (case h => (repeat (first | exact List.Mem.head _ | fail))); rfl)) | fail); (case hf => kernel_rfl); (case hr => kernel_rfl); (case hd => rfl)) | fail)
    all_goals (first | (apply d_take 2; (case hi => rfl); (case hop => first | (apply PureOp.read; apply p_move <;> rfl)); (case hf => kernel_rfl); (case hr => kernel_rfl); (case hd => rfl)) | fail)
    all_goals (first | (apply d_take 3; (case hi => rfl); (case hop => first | (apply PureOp.read; apply p_indexAddrS; (case hx => rfl); (case hi => rfl); (case h0 => omega); (case h => omega); (case hA => first | assumption | fail))); (case hf => kernel_rfl); (case hr => kernel_rfl); (case hd => rfl)) | fail)
    all_goals (first | (apply d_take 4; (case hi => rfl); (case hop => first | (apply PureOp.read; apply p_fieldAddr <;> rfl)); (case hf => kernel_rfl); (case hr => kernel_rfl); (case hd => rfl)) | fail)
    all_goals (first | (apply d_take 5; (case hi => rfl); (case hop => first | ((apply r_load1; rfl; exact Cell.frozen kc0)) | fail); (case hf => kernel_rfl); (case hr => kernel_rfl); (case hd => rfl)) | fail)
    all_goals (first | (apply d_take 6; (case hi => rfl); (case hop => first | (apply PureOp.read; apply p_fieldAddrB <;> rfl) | fail); (case hf => kernel_rfl); (case hr => kernel_rfl); (case hd => rfl)) | fail)
    all_goals (first | (apply d_take 7; (case hi => rfl); (case hop => first | (apply r_load1; rfl; (apply Cell.own; (case h => (repeat (first | exact List.Mem.head _ | fail))); rfl)) | fail); (case hf => kernel_rfl); (case hr => kernel_rfl); (case hd => rfl)) | fail)
    all_goals (first | (apply d_take 8; (case hi => rfl); (case hop => first | (apply PureOp.read; apply p_le <;> rfl)); (case hf => kernel_rfl); (case hr => kernel_rfl); (case hd => rfl)) | fail)
    all_goals (first | (apply d_take 9; (case hi => rfl); (case hop => first | (apply PureOp.read; apply p_move <;> rfl)); (case hf => kernel_rfl); (case hr => kernel_rfl); (case hd => rfl)) | fail)
    all_goals (try (apply d_guardB 10; (case hi => rfl); (case hgd => rfl); (case h1 => rfl); (case h2 => first | rfl); all_goals (intro h; (try simp only [reduceCtorEq, dec_true, dec_false, decide_eq_true_eq, decide_eq_false_iff_not, Bool.not_eq_true', Bool.not_eq_false', Option.isNone_iff_eq_none, beq_true, beq_false, beq_iff_eq, beq_eq_false_iff_ne, ne_eq, decide_eq_decide, Bool.not_eq_true, Bool.not_eq_false, Decidable.not_not] at h); first | (exfalso; omega) | skip)))
    all_goals (first | (apply d_takeG 10; (case hi => rfl); (case hg => rfl); (case hop => first | (apply PureOp.read; apply p_fieldAddrB <;> rfl) | fail); (case hf => kernel_rfl); (case hr => kernel_rfl); (case hd => rfl)) | fail)
    all_goals (try (apply d_guardB 11; (case hi => rfl); (case hgd => rfl); (case h1 => rfl); (case h2 => first | rfl); all_goals (intro h; (try simp only [reduceCtorEq, dec_true, dec_false, decide_eq_true_eq, decide_eq_false_iff_not, Bool.not_eq_true', Bool.not_eq_false', Option.isNone_iff_eq_none, beq_true, beq_false, beq_iff_eq, beq_eq_false_iff_ne, ne_eq, decide_eq_decide, Bool.not_eq_true, Bool.not_eq_false, Decidable.not_not] at h); first | done | skip)))
    all_goals (first | (apply d_takeG 11; (case hi => rfl); (case hg => rfl); (case hop => first | (apply r_load1; rfl; (apply Cell.own; (case h => (repeat (first | exact List.Mem.head _ | fail))); rfl)) | fail); (case hf => kernel_rfl); (case hr => kernel_rfl); (case hd => rfl)) | fail)
    all_goals (try (apply d_guardB 12; (case hi => rfl); (case hgd => rfl); (case h1 => rfl); (case h2 => first | rfl); all_goals (intro h; (try simp only [reduceCtorEq, dec_true, dec_false, decide_eq_true_eq, decide_eq_false_iff_not, Bool.not_eq_true', Bool.not_eq_false', Option.isNone_iff_eq_none, beq_true, beq_false, beq_iff_eq, beq_eq_false_iff_ne, ne_eq, decide_eq_decide, Bool.not_eq_true, Bool.not_eq_false, Decidable.not_not] at h); first | done | skip)))
    all_goals (first | (apply d_takeG 12; (case hi => rfl); (case hg => rfl); (case hop => first | (apply PureOp.read; apply p_move <;> rfl)); (case hf => kernel_rfl); (case hr => kernel_rfl); (case hd => rfl)) | fail)
    all_goals (try (apply d_guardB 13; (case hi => rfl); (case hgd => rfl); (case h1 => rfl); (case h2 => first | rfl); all_goals (intro h; (try simp only [reduceCtorEq, dec_true, dec_false, decide_eq_true_eq, decide_eq_false_iff_not, Bool.not_eq_true', Bool.not_eq_false', Option.isNone_iff_eq_none, beq_true, beq_false, beq_iff_eq, beq_eq_false_iff_ne, ne_eq, decide_eq_decide, Bool.not_eq_true, Bool.not_eq_false, Decidable.not_not] at h); first | done | skip)))
    all_goals (first | (apply d_takeG 13; (case hi => rfl); (case hg => rfl); (case hop => first | (apply PureOp.read; apply p_indexAddrS; (case hx => rfl); (case hi => rfl); (case h0 => omega); (case h => omega); (case hA => first | assumption | fail))); (case hf => kernel_rfl); (case hr => kernel_rfl); (case hd => rfl)) | fail)
    all_goals (try (apply d_guardB 14; (case hi => rfl); (case hgd => rfl); (case h1 => rfl); (case h2 => first | rfl); all_goals (intro h; (try simp only [reduceCtorEq, dec_true, dec_false, decide_eq_true_eq, decide_eq_false_iff_not, Bool.not_eq_true', Bool.not_eq_false', Option.isNone_iff_eq_none, beq_true, beq_false, beq_iff_eq, beq_eq_false_iff_ne, ne_eq, decide_eq_decide, Bool.not_eq_true, Bool.not_eq_false, Decidable.not_not] at h); first | done | skip)))
    all_goals (first | (apply d_takeG 14; (case hi => rfl); (case hg => rfl); (case hop => first | (apply PureOp.read; apply p_fieldAddr <;> rfl)); (case hf => kernel_rfl); (case hr => kernel_rfl); (case hd => rfl)) | fail)
    all_goals (try (apply d_guardB 15; (case hi => rfl); (case hgd => rfl); (case h1 => rfl); (case h2 => first | rfl); all_goals (intro h; (try simp only [reduceCtorEq, dec_true, dec_false, decide_eq_true_eq, decide_eq_false_iff_not, Bool.not_eq_true', Bool.not_eq_false', Option.isNone_iff_eq_none, beq_true, beq_false, beq_iff_eq, beq_eq_false_iff_ne, ne_eq, decide_eq_decide, Bool.not_eq_true, Bool.not_eq_false, Decidable.not_not] at h); first | done | skip)))
    all_goals (first | (apply d_takeG 15; (case hi => rfl); (case hg => rfl); (case hop => first | (apply PureOp.read; apply p_fieldAddrB <;> rfl) | fail); (case hf => kernel_rfl); (case hr => kernel_rfl); (case hd => rfl)) | fail)
    all_goals (try (apply d_guardB 16; (case hi => rfl); (case hgd => rfl); (case h1 => rfl); (case h2 => first | rfl); all_goals (intro h; (try simp only [reduceCtorEq, dec_true, dec_false, decide_eq_true_eq, decide_eq_false_iff_not, Bool.not_eq_true', Bool.not_eq_false', Option.isNone_iff_eq_none, beq_true, beq_false, beq_iff_eq, beq_eq_false_iff_ne, ne_eq, decide_eq_decide, Bool.not_eq_true, Bool.not_eq_false, Decidable.not_not] at h); first | done | skip)))
    all_goals (first | (apply d_takeG 16; (case hi => rfl); (case hg => rfl); (case hop => first | ((apply r_load1; rfl; exact Cell.frozen kc1)) | fail); (case hf => kernel_rfl); (case hr => kernel_rfl); (case hd => rfl)) | fail)
    all_goals (try (apply d_guardB 17; (case hi => rfl); (case hgd => rfl); (case h1 => rfl); (case h2 => first | rfl); all_goals (intro h; (try simp only [reduceCtorEq, dec_true, dec_false, decide_eq_true_eq, decide_eq_false_iff_not, Bool.not_eq_true', Bool.not_eq_false', Option.isNone_iff_eq_none, beq_true, beq_false, beq_iff_eq, beq_eq_false_iff_ne, ne_eq, decide_eq_decide, Bool.not_eq_true, Bool.not_eq_false, Decidable.not_not] at h); first | done | skip)))
    all_goals (first | (apply d_takeG 17; (case hi => rfl); (case hg => rfl); (case hop => first | (apply PureOp.read; apply p_ne <;> rfl) | fail); (case hf => kernel_rfl); (case hr => kernel_rfl); (case hd => rfl)) | fail)
    all_goals (first | (apply d_take 18; (case hi => rfl); (case hop => first | (apply PureOp.read; apply p_pickF <;> rfl) | fail); (case hf => kernel_rfl); (case hr => kernel_rfl); (case hd => rfl)) | fail)
    all_goals (apply d_done; (case hr => kernel_rfl))
    repeat' (first | apply v_region | apply v_nil | apply v_skip | apply v_blk | (apply v_pure; (case hop => first | (apply p_move <;> rfl) | (apply p_assign <;> rfl) | (apply p_add; (case hx => rfl); (case hy => rfl); (case h => omega)) | fail); (case hd => rfl)) | (apply v_cond; (case hc => rfl); all_goals (intro h; (try simp only [reduceCtorEq, dec_true, dec_false, decide_eq_true_eq, decide_eq_false_iff_not, Bool.not_eq_true', Bool.not_eq_false', Option.isNone_iff_eq_none, beq_true, beq_false, beq_iff_eq, beq_eq_false_iff_ne, ne_eq, decide_eq_decide, Bool.not_eq_true, Bool.not_eq_false, Decidable.not_not] at h); first | (exfalso; omega) | skip)) | fail)
    refine v_again rfl ⟨rfl, rfl, k + 1, by omega, rfl⟩ (by simp [headI]; omega)
  · repeat' (first | apply v_seq | apply v_region | apply v_nil | (apply v_exit; (case hp => rfl)) | (apply v_pure; (case hop => first | (apply p_move <;> rfl) | (apply p_lt <;> rfl) | (apply p_assign <;> rfl) | (apply p_lenSlice <;> rfl) | (apply p_fieldAddrB <;> rfl) | fail); (case hd => rfl)) | (apply v_cond; (case hc => rfl); all_goals (intro h; (try simp only [reduceCtorEq, dec_true, dec_false, decide_eq_true_eq, decide_eq_false_iff_not, Bool.not_eq_true', Bool.not_eq_false', Option.isNone_iff_eq_none, beq_true, beq_false, beq_iff_eq, beq_eq_false_iff_ne, ne_eq, decide_eq_decide, Bool.not_eq_true, Bool.not_eq_false, Decidable.not_not] at h); first | (exfalso; omega) | skip)) | (apply v_read; (case hop => first | (apply r_load1; rfl; (apply Cell.own; (case h => (repeat (first | exact List.Mem.head _ | fail))); rfl)) | fail); (case hd => rfl)) | fail)
    refine v_ret [] (outsA1 rfl rfl) (by repeat (first | exact List.nil_sublist _ | fail)) ?_
    exact ⟨rfl, rfl⟩
end Go.Proofs.YtnoiahlpmgbhfaaDoor
/-
  hard (layer 19), the twelfth part: what was there stays; two logs that are, or are not, the same.
-/
set_option linter.unusedSimpArgs false
set_option linter.unusedVariables false
namespace Go.Proofs.YtnoiahlpmgbhfaaDoor
open Go.Vx Go.ChangeShapes Go.WideShapes Go.ChangeAt Go.RowKit
/-! ### Two that are the same -/
theorem entEqual_s {G : GH} {a b : List Ent} {av bv : Value} (ha : Es G av a) (hb : Es G bv b) : Con Tryd.prog 69 #[av, bv] G [] (Just (.bool (decide (a = b))) G) := by
  obtain ⟨A, c, rfl, hlc, hcm, hsome, hcp, hcb, hcc, hok⟩ := esOpen ha
  obtain ⟨A', c', rfl, hlc', hcm', hsome', hcp', hcb', hcc', hok'⟩ := esOpen hb
  clear hcb hcc hok hcb' hcc' hok'
  simp only [maxLen] at hcm hcm'
  apply Con.just
  refine v_enter Tryd.func69 rfl Tryd.ntmps69 rfl (fun B => ?_)
  repeat' (first | apply v_seq | apply v_region | apply v_nil | apply v_skip | apply v_block | (apply v_pure; (case hop => first | (apply p_move <;> rfl) | (apply p_ne <;> rfl) | (apply p_assign <;> rfl) | (apply p_lenSlice <;> rfl) | fail); (case hd => rfl)) | (apply v_cond; (case hc => rfl); all_goals (intro h; (try simp only [reduceCtorEq, dec_true, dec_false, decide_eq_true_eq, decide_eq_false_iff_not, Bool.not_eq_true', Bool.not_eq_false', Option.isNone_iff_eq_none, beq_true, beq_false, beq_iff_eq, beq_eq_false_iff_ne, ne_eq, decide_eq_decide, Bool.not_eq_true, Bool.not_eq_false, Decidable.not_not] at h); first | skip)) | fail)
  · refine v_ret [] (outsA1 rfl rfl) (by repeat (first | exact List.Sublist.refl _ | fail)) ?_
    refine ⟨?_, rfl⟩
    rw [decide_eq_false]
    intro e
    subst e
    omega
  have hab : a.length = b.length := by omega
  refine v_loop [13, 12, 0, 1] (fun us G' μ' => G' = G ∧ μ' = [] ∧ ∃ k, k ≤ a.length ∧ us = [Value.int .i64 (k : Nat), .int .i64 (a.length : Nat), .slice A a.length c, .slice A' b.length c'] ∧ ∀ i (h : i < a.length) (h' : i < b.length), i < k → a[i] = b[i]) (fun us => a.length - (headI us).toNat) rfl ⟨rfl, rfl, 0, by omega, rfl, by omega⟩ ?_
  rintro us G' μ' ⟨rfl, rfl, k, hk, rfl, hno⟩
  repeat' (first | apply v_seq | apply v_region | apply v_nil | apply v_skip | apply v_block | (apply v_exit; (case hp => rfl)) | (apply v_pure; (case hop => first | (apply p_move <;> rfl) | (apply p_lt <;> rfl) | (apply p_assign <;> rfl) | fail); (case hd => rfl)) | (apply v_cond; (case hc => rfl); all_goals (intro h; (try simp only [reduceCtorEq, dec_true, dec_false, decide_eq_true_eq, decide_eq_false_iff_not, Bool.not_eq_true', Bool.not_eq_false', Option.isNone_iff_eq_none, beq_true, beq_false, beq_iff_eq, beq_eq_false_iff_ne, ne_eq, decide_eq_decide, Bool.not_eq_true, Bool.not_eq_false, Decidable.not_not] at h); first | skip)) | fail)
  · have hlt : k < a.length := by omega
    refine d_start [] (by kernel_rfl) (by kernel_rfl) (by intro e he; first | exact he | fail) ?_
    all_goals (first | (apply d_take 0; (case hi => rfl); (case hop => first | (apply PureOp.read; apply p_move <;> rfl)); (case hf => kernel_rfl); (case hr => kernel_rfl); (case hd => rfl)) | fail)
    all_goals (first | (apply d_take 1; (case hi => rfl); (case hop => first | (apply PureOp.read; apply p_move <;> rfl)); (case hf => kernel_rfl); (case hr => kernel_rfl); (case hd => rfl)) | fail)
    all_goals (first | (apply d_take 2; (case hi => rfl); (case hop => first | (apply PureOp.read; apply p_indexAddrS; (case hx => rfl); (case hi => rfl); (case h0 => omega); (case h => omega); (case hA => first | (apply_assumption; omega)))); (case hf => kernel_rfl); (case hr => kernel_rfl); (case hd => rfl)) | fail)
    all_goals (first | (apply d_take 3; (case hi => rfl); (case hop => first | ((apply r_loadN; rfl; exact CellsAt.frozen (hcp _ (by omega)); rfl)) | fail); (case hf => kernel_rfl); (case hr => kernel_rfl); (case hd => rfl)) | fail)
    all_goals (first | (apply d_take 4; (case hi => rfl); (case hop => first | (apply PureOp.read; apply p_move <;> rfl)); (case hf => kernel_rfl); (case hr => kernel_rfl); (case hd => rfl)) | fail)
    all_goals (first | (apply d_take 5; (case hi => rfl); (case hop => first | (apply PureOp.read; apply p_move <;> rfl)); (case hf => kernel_rfl); (case hr => kernel_rfl); (case hd => rfl)) | fail)
    all_goals (first | (apply d_take 6; (case hi => rfl); (case hop => first | (apply PureOp.read; apply p_indexAddrS; (case hx => rfl); (case hi => rfl); (case h0 => omega); (case h => omega); (case hA => first | (apply_assumption; omega)))); (case hf => kernel_rfl); (case hr => kernel_rfl); (case hd => rfl)) | fail)
    all_goals (first | (apply d_take 7; (case hi => rfl); (case hop => first | ((apply r_loadN; rfl; exact CellsAt.frozen (hcp' _ (by omega)); rfl)) | fail); (case hf => kernel_rfl); (case hr => kernel_rfl); (case hd => rfl)) | fail)
    all_goals (first | (apply d_take 8; (case hi => rfl); (case hop => first | ((apply PureOp.read; apply neEnt (x := a[k]'(by omega)) (y := b[k]'(by omega)); (case hx => rfl); (case hy => rfl))) | fail); (case hf => kernel_rfl); (case hr => kernel_rfl); (case hd => rfl)) | fail)
    all_goals (apply d_done; (case hr => kernel_rfl))
    repeat' (first | apply v_seq | apply v_region | apply v_nil | apply v_skip | apply v_blk | (apply v_pure; (case hop => first | (apply p_move <;> rfl) | (apply p_assign <;> rfl) | (apply p_add; (case hx => rfl); (case hy => rfl); (case h => omega)) | fail); (case hd => rfl)) | (apply v_cond; (case hc => rfl); all_goals (intro h; (try simp only [reduceCtorEq, dec_true, dec_false, decide_eq_true_eq, decide_eq_false_iff_not, Bool.not_eq_true', Bool.not_eq_false', Option.isNone_iff_eq_none, beq_true, beq_false, beq_iff_eq, beq_eq_false_iff_ne, ne_eq, decide_eq_decide, Bool.not_eq_true, Bool.not_eq_false, Decidable.not_not] at h); first | skip)) | fail)
    · refine v_ret [] (outsA1 rfl rfl) (by repeat (first | exact List.Sublist.refl _ | fail)) ?_
      refine ⟨?_, rfl⟩
      rw [decide_eq_false]
      intro e
      subst e
      contradiction
    · refine v_again rfl ⟨rfl, rfl, k + 1, by omega, rfl, fun i h h' hi => ?_⟩ (by simp [headI]; omega)
      by_cases hik : i = k
      · subst hik; assumption
      · exact hno i h h' (by omega)
  · refine v_ret [] (outsA1 rfl rfl) (by repeat (first | exact List.Sublist.refl _ | fail)) ?_
    refine ⟨?_, rfl⟩
    rw [decide_eq_true]
    exact List.ext_getElem hab fun i h h' => hno i h h' (by omega)
noncomputable instance : DecidableEq Hd := fun a b => Classical.propDecidable (a = b)
theorem hd_eq (a b : Hd) : a = b ↔ (a.pr = b.pr ∧ a.pn = b.pn) ∧ a.base = b.base ∧ a.image = b.image ∧ a.acc = b.acc ∧ a.cho = b.cho := by
  cases a; cases b
  simp only [Hd.mk.injEq]
  constructor
  · rintro ⟨h1, h2, h3, h4, h5, h6⟩; exact ⟨⟨h1, h2⟩, h3, h4, h5, h6⟩
  · rintro ⟨⟨h1, h2⟩, h3, h4, h5, h6⟩; exact ⟨h1, h2, h3, h4, h5, h6⟩
theorem hardSame_s {G : GH} {H H' : Hd} {L L' : List Value} (h1 : HdV G H L) (h2 : HdV G H' L') : Con Tryd.prog 27 #[.agg L.toArray, .agg L'.toArray] G [] (Just (.bool (decide (H = H'))) G) := by
  obtain ⟨iv, av, cv, rfl, hi, ha, hc⟩ := h1
  obtain ⟨iv', av', cv', rfl, hi', ha', hc'⟩ := h2
  have q1 := bEqual_s hi hi'
  have q2 := entEqual_s ha ha'
  have q3 := entEqual_s hc hc'
  have he := hd_eq H H'
  obtain ⟨A0, c0, rfl, -⟩ := hi.openInt
  obtain ⟨A1, c1, rfl, -⟩ := ha.open
  obtain ⟨A2, c2, rfl, -⟩ := hc.open
  obtain ⟨B0, d0, rfl, -⟩ := hi'.openInt
  obtain ⟨B1, d1, rfl, -⟩ := ha'.open
  obtain ⟨B2, d2, rfl, -⟩ := hc'.open
  generalize hb1 : decide (H.image = H'.image) = b1 at *
  generalize hb2 : decide (H.acc = H'.acc) = b2 at *
  generalize hb3 : decide (H.cho = H'.cho) = b3 at *
  apply Con.just
  refine v_enter Tryd.func27 rfl Tryd.ntmps27 rfl (fun B => ?_)
  repeat' (first | (apply v_pure; (case hop => (apply eqBal; (case hx => rfl); (case hy => rfl))); (case hd => rfl)) | apply v_seq | apply v_region | apply v_nil | (apply v_take; (case hg => rfl)) | (apply v_pass; (case hg => rfl); (case hn => rfl); (case hd => rfl)) | (apply v_pure; (case hop => first | (apply p_move <;> rfl) | (apply p_eq <;> rfl) | (apply p_assign <;> rfl) | (apply p_pickT <;> rfl) | (apply p_pickF <;> rfl) | (apply p_fieldAddrB <;> rfl) | fail); (case hd => rfl)) | (apply v_guardB; (case h1 => rfl); (case h2 => rfl); all_goals (intro h; (try simp only [reduceCtorEq, dec_true, dec_false, decide_eq_true_eq, decide_eq_false_iff_not, Bool.not_eq_true', Bool.not_eq_false', Option.isNone_iff_eq_none, beq_true, beq_false, beq_iff_eq, beq_eq_false_iff_ne, ne_eq, decide_eq_decide, Bool.not_eq_true, Bool.not_eq_false, Decidable.not_not] at h); first | skip)) | (apply v_callJ (hs := q1); (case ha => rfl); (case hd => rfl)) | (apply v_callJ (hs := q2); (case ha => rfl); (case hd => rfl)) | (apply v_callJ (hs := q3); (case ha => rfl); (case hd => rfl)) | (apply v_read; (case hop => first | (apply r_loadNo; (case hx => rfl); (case h => (repeat (first | exact List.Mem.head _ | apply List.Mem.tail | fail))); (case hd => (repeat (first | with_reducible exact dt_nil | apply dt_here | fail))); (case hn => rfl)) | (apply r_load1; rfl; (apply Cell.own; (case h => (repeat (first | exact List.Mem.head _ | apply List.Mem.tail | fail))); rfl)) | fail); (case hd => rfl)) | (apply v_box; (case hx => rfl); (case hz => rfl); (case hd => rfl); intro b) | fail)
  all_goals
    (refine v_ret [] (outsA1 rfl rfl) (by repeat (first | exact List.nil_sublist _ | fail)) ?_
     refine ⟨?_, rfl⟩
     cases b3
     all_goals first
       | (cases h; done)
       | (rw [decide_eq_true]; rw [he]; exact ⟨by assumption, by assumption, of_decide_eq_true (hb1.trans (by assumption)), of_decide_eq_true (hb2.trans (by assumption)), of_decide_eq_true hb3⟩)
       | (rw [decide_eq_false]; rw [he]; rintro ⟨g1, g2, g3, g4, g5⟩; first | contradiction | (rw [decide_eq_true g3] at hb1; subst hb1; contradiction) | (rw [decide_eq_true g4] at hb2; subst hb2; contradiction) | (rw [decide_eq_true g5] at hb3; cases hb3; done))
       | skip)
end Go.Proofs.YtnoiahlpmgbhfaaDoor
/-
  hard (layer 19), the thirteenth part: Clone, Apply.
-/
set_option linter.unusedSimpArgs false
set_option linter.unusedVariables false
namespace Go.Proofs.YtnoiahlpmgbhfaaDoor
open Go.Vx Go.ChangeShapes Go.WideShapes Go.ChangeAt Go.RowKit
theorem hClone_s {G : GH} {H : Hd} {L : List Value} (hh : HdV G H L) (h1 : H.image.length ≤ 40000) (h2 : H.acc.length ≤ 200) (h3 : H.cho.length ≤ 200) (o2 : ∀ e ∈ H.acc, e.ok) (o3 : ∀ e ∈ H.cho, e.ok) :
    Con Tryd.prog 49 #[.agg L.toArray] G [] (fun r G' μ' => μ' = [] ∧ ∃ L', r = .agg L'.toArray ∧ HdV G' H L') := by
  obtain ⟨im, av, cv, rfl, hi, ha, hc⟩ := hh
  have q1 := bclone_s hi (by omega)
  have q2 := entClone_s ha (by omega)
  have q3 := entClone_s hc (by omega)
  obtain ⟨A0, c0, rfl, -, -, -, -, hwx⟩ := id hi.openInt
  obtain ⟨A1, c1, rfl, -⟩ := id ha.open
  obtain ⟨A2, c2, rfl, -⟩ := id hc.open
  refine v_enter Tryd.func49 rfl Tryd.ntmps49 rfl (fun B => ?_)
  repeat' (first | apply v_seq | apply v_region | apply v_nil | (apply v_pure; (case hop => first | (apply p_fieldAddrB <;> rfl) | fail); (case hd => rfl)) | (apply v_read; (case hop => first | (apply r_load1; rfl; (apply Cell.own; (case h => (repeat (first | exact List.Mem.head _ | apply List.Mem.tail | fail))); rfl)) | fail); (case hd => rfl)) | (apply v_alloc; (case hz => rfl); (case hd => rfl); intro b) | (apply v_box; (case hx => rfl); (case hz => rfl); (case hd => rfl); intro b) | fail)
  refine v_call (μ1 := []) (μ2 := _) rfl q1 (List.Perm.refl _) rfl ?_
  rintro r1 _ ν1 - ⟨rfl, hg1⟩
  obtain ⟨A4, c4, rfl, -, -⟩ := hg1.shape
  repeat' (first | apply v_seq | apply v_region | apply v_nil | (apply v_pure; (case hop => first | (apply p_fieldAddrB <;> rfl) | fail); (case hd => rfl)) | (apply v_read; (case hop => first | (apply r_load1; rfl; (apply Cell.own; (case h => (repeat (first | exact List.Mem.head _ | apply List.Mem.tail | apply List.mem_append_right))); rfl)) | fail); (case hd => rfl)) | (apply v_store; (case hp => rfl); (case hx => rfl); (case hc => rfl); (case hsz => rfl); (case h1 => rfl); (case hb => (repeat (first | exact List.Mem.head _ | apply List.Mem.tail | apply List.mem_append_right))); (case hfit => first | exact Nat.le_of_ble_eq_true rfl | fail); (case hov => (first | ((repeat (first | with_reducible exact ov_nil | apply ov_cons | fail)); done) | fail)); (case hu => repeat (first | exact Upd.here _ _ | apply Upd.there | apply Upd.app))) | fail)
  refine v_call (μ1 := []) (μ2 := _) rfl q2 (List.Perm.refl _) rfl ?_
  rintro r2 _ ν2 - ⟨rfl, hg2⟩
  obtain ⟨A5, c5, rfl, -, -⟩ := hg2.shape
  repeat' (first | apply v_seq | apply v_region | apply v_nil | (apply v_pure; (case hop => first | (apply p_fieldAddrB <;> rfl) | fail); (case hd => rfl)) | (apply v_read; (case hop => first | (apply r_load1; rfl; (apply Cell.own; (case h => (repeat (first | exact List.Mem.head _ | apply List.Mem.tail | apply List.mem_append_right))); rfl)) | fail); (case hd => rfl)) | (apply v_store; (case hp => rfl); (case hx => rfl); (case hc => rfl); (case hsz => rfl); (case h1 => rfl); (case hb => (repeat (first | exact List.Mem.head _ | apply List.Mem.tail | apply List.mem_append_right))); (case hfit => first | exact Nat.le_of_ble_eq_true rfl | fail); (case hov => (first | ((repeat (first | with_reducible exact ov_nil | apply ov_cons | fail)); done) | fail)); (case hu => repeat (first | exact Upd.here _ _ | apply Upd.there | apply Upd.app))) | fail)
  refine v_call (μ1 := []) (μ2 := _) rfl q3 (List.Perm.refl _) rfl ?_
  rintro r3 _ ν3 - ⟨rfl, hg3⟩
  obtain ⟨A6, c6, rfl, -, -⟩ := hg3.shape
  repeat' (first | apply v_seq | apply v_region | apply v_nil | (apply v_pure; (case hop => first | (apply p_fieldAddrB <;> rfl) | fail); (case hd => rfl)) | (apply v_read; (case hop => first | (apply r_loadNo; (case hx => rfl); (case h => (repeat (first | exact List.Mem.head _ | apply List.Mem.tail | apply List.mem_append_right))); (case hd => (repeat (first | with_reducible exact dt_nil | apply dt_here | fail))); (case hn => rfl)) | fail); (case hd => rfl)) | (apply v_store; (case hp => rfl); (case hx => rfl); (case hc => rfl); (case hsz => rfl); (case h1 => rfl); (case hb => (repeat (first | exact List.Mem.head _ | apply List.Mem.tail | apply List.mem_append_right))); (case hfit => first | exact Nat.le_of_ble_eq_true rfl | fail); (case hov => (first | ((repeat (first | with_reducible exact ov_nil | apply ov_cons | fail)); done) | fail)); (case hu => repeat (first | exact Upd.here _ _ | apply Upd.there | apply Upd.app))) | fail)
  refine v_frz ν3 (by repeat (first | exact PickA.here _ | fail)) ?_
  intro G2 hle2 hG2
  refine v_frz ν2 (by repeat (first | exact PickA.here _ | fail)) ?_
  intro G3 hle3 hG3
  refine v_frz ν1 (by repeat (first | exact PickA.here _ | fail)) ?_
  intro G4 hle4 hG4
  have k1 := hg1.ints hG4 hwx
  have k2 := esle (es_of_grow hg2 hG3 o2) hle4
  have k3 := esle (es_of_grow hg3 hG2 o3) (GH.le_trans hle3 hle4)
  refine v_retM [] (outsM_cell (vs := hdL H.pr H.pn H.base (.slice A4 H.image.length c4) (.slice A5 H.acc.length c5) (.slice A6 H.cho.length c6)) (e := 42) rfl rfl (by repeat (first | exact List.Mem.head _ | fail)) rfl) (by repeat (first | exact List.nil_sublist _ | fail)) ?_
  exact ⟨rfl, _, rfl, _, _, _, rfl, k1, k2, k3⟩
end Go.Proofs.YtnoiahlpmgbhfaaDoor
/-
  hard (layer 19), the eleventh part: the example; the law HardOf.
-/
set_option linter.unusedSimpArgs false
set_option linter.unusedVariables false
namespace Go.Proofs.YtnoiahlpmgbhfaaDoor
open Go.Vx Go.ChangeShapes Go.WideShapes Go.ChangeAt Go.RowKit
def nopC : Cm := ⟨1, 0, 0, .empty, .empty, .empty, 0⟩
def hx1 : Rc := ⟨1, 3, 1, 0, zeroC, []⟩
def hx2 : Rc := ⟨2, 2, 1, 5, nopC, []⟩
theorem nop0 : cmdI nopC = 0 := by
  have hk : nopC.key.size = 0 ∧ nopC.val.size = 0 ∧ nopC.old.size = 0 := by decide
  rw [cmdI_eq]
  unfold cmdE
  have e : nopC.kind = 1 ∧ nopC.client = 0 ∧ nopC.seq = 0 ∧ nopC.node = 0 := ⟨rfl, rfl, rfl, rfl⟩
  rw [if_neg (by omega), if_neg (by omega), if_neg (by omega), if_neg (by omega)]
theorem hx1_ok : chkI hx1 = 0 := by
  show recI 1 3 1 0 zeroC 0 = 0
  unfold recI ranP mayP
  rw [if_neg (by omega), if_neg (by simp), if_neg (by omega), if_neg (by simp), if_neg]
  unfold othP
  simp [zeroC, zeroCm]
theorem hx2_ok : chkI hx2 = 0 := by
  show recI 2 2 1 5 nopC 0 = 0
  unfold recI ranP mayP
  rw [if_neg (by omega), if_neg (by simp), if_neg (by omega), if_neg (by rw [nop0]; simp), if_neg]
  unfold othP
  simp
theorem nopC_ok : nopC.ok := ⟨by decide, by decide, by decide, by decide, by decide, by decide, by decide⟩
theorem exHard : (hardOf [hx1, hx2]).pr = 3 ∧ (hardOf [hx1, hx2]).acc.length = 1 := by
  have e1 : stepH Hd.zero hx1 = ⟨3, 1, 0, [], [], []⟩ := by
    unfold stepH
    rw [if_pos hx1_ok]
    unfold chg
    rw [if_pos (show hx1.kind = 1 from rfl)]
    unfold Hd.prom
    rw [if_pos (by unfold lessP; decide)]
    rfl
  have e2 : stepH ⟨3, 1, 0, [], [], []⟩ hx2 = ⟨3, 1, 0, [], withL [] (entOf hx2), []⟩ := by
    unfold stepH
    rw [if_pos hx2_ok]
    unfold chg
    rw [if_neg (show ¬ hx2.kind = 1 by decide), if_pos (show hx2.kind = 2 from rfl)]
    have ep : (⟨3, 1, 0, [], [], []⟩ : Hd).prom hx2 = ⟨3, 1, 0, [], [], []⟩ := by
      unfold Hd.prom
      rw [if_neg (by unfold lessP; decide)]
    rw [ep, if_pos (by decide)]
  have e3 : hardOf [hx1, hx2] = ⟨3, 1, 0, [], withL [] (entOf hx2), []⟩ := by
    unfold hardOf
    rw [List.foldl_cons, List.foldl_cons, List.foldl_nil, e1, e2]
  rw [e3]
  have hr : RiseL [] := fun i j hj => by simp at hj
  refine ⟨rfl, ?_⟩
  simp only
  rw [withL_ins hr]
  rfl
theorem two_rs {G : GH} {b : Nat} {e : TypeId} (h : G b = some (.cells (recL 1 3 1 0 zeroC nilS ++ recL 2 2 1 5 nopC nilS).toArray e (0, 0))) : Rs G (.slice (some ⟨b, 0, none⟩) 2 2) [hx1, hx2] := by
  refine ⟨some ⟨b, 0, none⟩, 2, rfl, by simp, by simp [maxLen], fun _ => ⟨_, rfl, fun i x hx => ?_⟩⟩
  have hi : i < 2 := by
    have := (List.getElem?_eq_some_iff.1 hx).1
    simpa using this
  obtain rfl | rfl : i = 0 ∨ i = 1 := by omega
  · have : x = hx1 := by simpa using hx.symm
    subst this
    refine ⟨recL 1 3 1 0 zeroC nilS, rfl, ⟨nilS, rfl, zeroC_ok, by unfold Rc.small hx1; decide, Sl.nil⟩, fun j v hv => ?_⟩
    have hj := (List.getElem?_eq_some_iff.1 hv).1
    rw [add_mk, add_mk, Nat.zero_add]
    simp only [GH.cell?, h, Option.isSome_none, Bool.false_eq_true, if_false]
    rw [List.getElem?_toArray, List.getElem?_append_left hj]
    exact hv
  · have : x = hx2 := by simpa using hx.symm
    subst this
    refine ⟨recL 2 2 1 5 nopC nilS, rfl, ⟨nilS, rfl, nopC_ok, by unfold Rc.small hx2; decide, Sl.nil⟩, fun j v hv => ?_⟩
    rw [add_mk, add_mk, Nat.zero_add]
    simp only [GH.cell?, h, Option.isSome_none, Bool.false_eq_true, if_false]
    have hl : (recL 1 3 1 0 zeroC nilS).length = 12 := rfl
    rw [List.getElem?_toArray, List.getElem?_append_right (by rw [hl]; omega), hl, show 1 * 12 + j - 12 = j by omega]
    exact hv
theorem awake19_s {G : GH} (hT : TabsG G) : Con Tryd.prog 18 #[] G [] (Just (.bool true) G) := by
  apply Con.just
  refine v_enter Tryd.func18 rfl Tryd.ntmps18 rfl (fun B => ?_)
  repeat' (first | apply v_seq | apply v_region | apply v_nil | (apply v_pure; (case hop => first | (apply p_assign <;> rfl) | (apply p_build; (case hz => rfl); (case hv => (simp only [List.map_cons, List.map_nil]; repeat (first | with_reducible exact evs_nil | (apply evs_cons; (case h1 => rfl))))); (case hb => (apply bldL; repeat (first | exact bld_nil | (apply bld_cons; (case hpf => rfl); (case hc => rfl); (case hs => rfl); (case hl => rfl); (case ho => (first | ((repeat (first | with_reducible exact ov_nil | apply ov_cons | fail)); done) | fail))))))) | fail); (case hd => rfl)) | (apply v_buildSlice; (case hz => rfl); (case hi => rfl); (case hv => (simp only [List.map_cons, List.map_nil]; repeat (first | with_reducible exact evs_nil | (apply evs_cons; (case h1 => rfl))))); (case hp => (first | (apply pk_cons; (case hc => rfl); (case hs => rfl); (case h => (first | (apply pk_cons; (case hc => rfl); (case hs => rfl); (case h => (first | with_reducible exact pk_nil | fail)); (case he => (first | ((repeat (first | with_reducible exact ap_nil | apply ap_cons)); done) | fail))) | fail)); (case he => (first | ((repeat (first | with_reducible exact ap_nil | apply ap_cons)); done) | fail))) | fail)); (case hb => rfl); (case hd => rfl); intro b) | fail)
  refine v_frz [(b, _)] (by repeat (first | exact PickA.last | fail)) ?_
  intro G1 hle1 hG1
  have hs := two_rs (hG1 b _ (List.Mem.head _))
  refine v_call (μ1 := []) (μ2 := _) rfl (of_s (hT.le hle1) hs (by decide)) (List.Perm.refl _) rfl ?_
  rintro _ G2 _ hle2 ⟨rfl, L, rfl, hh⟩
  obtain ⟨im, av, cv, rfl, hi, ha, hc⟩ := hh
  obtain ⟨x1, x2⟩ := exHard
  obtain ⟨A0, c0, rfl, -⟩ := hi.openInt
  obtain ⟨A1, c1, rfl, -⟩ := ha.open
  obtain ⟨A2, c2, rfl, -⟩ := hc.open
  generalize hardOf [hx1, hx2] = H at *
  repeat' (first | apply v_seq | apply v_region | apply v_nil | (apply v_take; (case hg => rfl)) | (apply v_pure; (case hop => first | (apply p_move <;> rfl) | (apply p_eq <;> rfl) | (apply p_assign <;> rfl) | (apply p_pickT <;> rfl) | (apply p_lenSlice <;> rfl) | (apply p_fieldAddrB <;> rfl) | fail); (case hd => rfl)) | (apply v_guardB; (case h1 => rfl); (case h2 => rfl); all_goals (intro h; (try simp only [reduceCtorEq, dec_true, dec_false, decide_eq_true_eq, decide_eq_false_iff_not, Bool.not_eq_true', Bool.not_eq_false', Option.isNone_iff_eq_none, beq_true, beq_false, beq_iff_eq, beq_eq_false_iff_ne, ne_eq, decide_eq_decide, Bool.not_eq_true, Bool.not_eq_false, Decidable.not_not] at h); first | (exfalso; omega) | skip)) | (apply v_read; (case hop => first | (apply r_load1; rfl; (apply Cell.own; (case h => (repeat (first | exact List.Mem.head _ | fail))); rfl)) | fail); (case hd => rfl)) | (apply v_alloc; (case hz => rfl); (case hd => rfl); intro b) | (apply v_store; (case hp => rfl); (case hx => rfl); (case hc => rfl); (case hsz => rfl); (case h1 => rfl); (case hb => (repeat (first | exact List.Mem.head _ | fail))); (case hfit => first | exact Nat.le_of_ble_eq_true rfl | fail); (case hov => (first | ((repeat (first | with_reducible exact ov_nil | apply ov_cons | fail)); done) | fail)); (case hu => repeat (first | exact Upd.here _ _ | fail))) | fail)
  all_goals first
    | (exfalso; omega)
    | (refine v_ret [] (outsA1 rfl rfl) (by repeat (first | exact List.nil_sublist _ | fail)) ?_
       refine ⟨?_, rfl⟩
       rw [dec_pos (by omega)])
theorem hard_eq {l : List Rc} (hc : ∀ x ∈ l, x.cmd.ok) : (⟨(l.foldl r1 Hd.zero).pr, (l.foldl r1 Hd.zero).pn, (l.foldl r1 Hd.zero).base, (l.foldl r1 Hd.zero).image, l.foldl (accS (l.foldl r1 Hd.zero).base) [], l.foldl (choS (l.foldl r1 Hd.zero).base) []⟩ : Hd) = hardOf l := by
  have i := hard_inv hc
  rw [i.pr, i.pn, i.base, i.image, ← i.acc, ← i.cho]
end Go.Proofs.YtnoiahlpmgbhfaaDoor
/-
  VX, A CUT: what is left is shown once, whichever way led there.
-/
set_option linter.unusedVariables false
set_option linter.unusedSimpArgs false
namespace Go.Vx
open Go
attribute [local semireducible] Vc DVc
def EnvHas (σ : Env) : Env → Prop
  | [] => True
  | (i, v) :: σ' => Env.get σ i = some v ∧ EnvHas σ σ'
theorem EnvHas.get {σ : Env} : ∀ {σ' : Env}, EnvHas σ σ' → ∀ i v, Env.get σ' i = some v → Env.get σ i = some v
  | [], _, i, v, h => by simp [Env.get] at h
  | (j, u) :: σ', hh, i, v, h => by
    obtain ⟨h1, h2⟩ := hh
    simp only [Env.get] at h
    cases hb : Nat.beq j i with
    | true =>
      rw [hb] at h
      simp only [cond_true, Option.some.injEq] at h
      subst h
      have := Nat.eq_of_beq_eq_true hb
      subst this
      exact h1
    | false =>
      rw [hb] at h
      exact EnvHas.get h2 i v h
section
variable {P : Program} {fn : Func} {n : Nat} {B : Base} {Φ : Value → GH → OH → Prop} {k : List It} {σ σ' : Env} {G G0 : GH} {μ : OH}
theorem v_has (h : EnvHas σ σ') (hv : Vc P fn n B Φ k σ' G μ) : Vc P fn n B Φ k σ G μ := fun w hw a ha => hv w hw a (ha.sub h.get)
theorem v_cut {it : It} (R : Env → GH → OH → Prop) (h2 : (∀ σ G μ, R σ G μ → Vc P fn n B Φ k σ G μ) → Vc P fn n B Φ (it :: k) σ G μ) (h1 : ∀ σ G μ, R σ G μ → Vc P fn n B Φ k σ G μ) : Vc P fn n B Φ (it :: k) σ G μ := h2 h1
end
section
variable {P : Program} {fn : Func} {n : Nat} {B : Base} {Φ : Value → GH → OH → Prop} {k : List It} {σ : Env} {G G0 : GH} {μ : OH} {all : Array Oper} {m : Nat} {listed : Array Bool} {d : Nat} {op : Op} {ty : TypeId} {pos : String} {af : Array Edge} {t : TypeId} {bytes : Nat} {zero : Value} {ν : OH}
/-- Some blocks of ours are frozen, inside such a region. -/
theorem d_frz (κ : OH) {r : OH} (hp : PickA κ μ r) (hν : ∀ e ∈ ν, e ∈ r) (h : ∀ G', GH.le G G' → (∀ b o, (b, o) ∈ κ → G' b = some o) → DVc P fn n B Φ all G0 ν m listed k σ G' r) : DVc P fn n B Φ all G0 ν m listed k σ G μ := by
  intro hsel hle _ w hw a ha
  have hw' := hw.perm hp.perm
  have hn := hw'.mem.nodup
  rw [List.map_append, List.nodup_append] at hn
  exact h (GH.put G κ) (GH.le_put _ _) (fun b o hb => GH.put_mem hn.1 (hw'.mem.apart b o (List.mem_append_left _ hb)) hb) hsel (GH.le_trans hle (GH.le_put _ _)) hν w hw'.freeze a ha
end
end Go.Vx
/-
  hard (layer 19), the fourteenth part: records that are appended; the law HardApplies.
-/
set_option linter.unusedSimpArgs false
set_option linter.unusedVariables false
namespace Go.Proofs.YtnoiahlpmgbhfaaDoor
open Go.Vx Go.ChangeShapes Go.WideShapes Go.ChangeAt Go.RowKit
theorem rec_one {G : GH} {x : Rc} {cs : List Value} (h : RcR G x cs) : cs.length = 12 ∧ cs.all Value.oneCell' = true := by
  obtain ⟨iv, rfl, -, -, hi⟩ := h
  obtain ⟨A, c, rfl, -⟩ := hi.openInt
  exact ⟨rfl, rfl⟩
end Go.Proofs.YtnoiahlpmgbhfaaDoor
/-
  hard (layer 19), the sixteenth part, in plain Lean: what a log may have; the records that come to it.
-/
set_option linter.unusedSimpArgs false
set_option linter.unusedVariables false
namespace Go.Proofs.YtnoiahlpmgbhfaaDoor
open Go.Vx Go.ChangeShapes Go.WideShapes Go.ChangeAt Go.RowKit
theorem chk_step {l : List Ent} : ∀ (n k : Nat), l.length - k = n → chkK l k = 0 → ∀ j (hj : j < l.length), k ≤ j → ∀ (h0 : 0 < j), (l[j - 1]'(by omega)).index < l[j].index
  | 0, k, hn, h, j, hj, hkj, h0 => by omega
  | n + 1, k, hn, h, j, hj, hkj, h0 => by
    have hlt : k < l.length := by omega
    have h1 : oneI l[k] = 0 := chk_all (n + 1) k hn h k hlt (Nat.le_refl _)
    by_cases hk : ∃ h0 : 0 < k, l[k].index ≤ (l[k - 1]'(by omega)).index
    · obtain ⟨h2, h3⟩ := hk
      have := chkK_low hlt h1 h2 h3
      omega
    · have hnx := chkK_next hlt h1 fun h2 h3 => hk ⟨h2, h3⟩
      by_cases e : j = k
      · subst e
        have : ¬ l[j].index ≤ (l[j - 1]'(by omega)).index := fun h3 => hk ⟨h0, h3⟩
        omega
      · exact chk_step n (k + 1) (by omega) (by rw [← hnx]; exact h) j hj (by omega) h0
theorem chk_rise {l : List Ent} (h : chkK l 0 = 0) : RiseL l := by
  have hs := chk_step (l.length - 0) 0 rfl h
  have key : ∀ (d i : Nat) (hi : i + d + 1 < l.length), (l[i]'(by omega)).index < l[i + d + 1].index := by
    intro d
    induction d with
    | zero =>
      intro i hi
      have := hs (i + 1) (by omega) (by omega) (by omega)
      simpa using this
    | succ d ih =>
      intro i hi
      have h1 := ih i (by omega)
      have h2 := hs (i + (d + 1) + 1) hi (by omega) (by omega)
      simp only [Nat.add_sub_cancel] at h2
      exact Int.lt_trans h1 h2
  intro i j hj hij
  have := key (j - i - 1) i (by omega)
  simpa only [show i + (j - i - 1) + 1 = j by omega] using this
theorem chk_one {l : List Ent} (h : chkK l 0 = 0) : ∀ e ∈ l, oneI e = 0 := fun e he => by
  obtain ⟨i, hi, rfl⟩ := List.getElem_of_mem he
  exact chk_all (l.length - 0) 0 rfl h i hi (by omega)
/-- Whether a log may have that. -/
def CheckP (H : Hd) : Prop := mayP H.pr H.pn ∧ (0 ≤ H.base ∧ H.base ≤ 4294967296) ∧ H.image.length ≤ 32768 ∧ (0 < H.base ↔ 0 < H.image.length) ∧ chkK H.acc 0 = 0 ∧ chkK H.cho 0 = 0 ∧ (∀ e ∈ H.acc, H.base < e.index ∧ e.round ≠ 0 ∧ ¬ lessP H.pr H.pn e.round e.node) ∧ (∀ e ∈ H.cho, H.base < e.index ∧ e.round = 0)
noncomputable instance (H : Hd) : Decidable (CheckP H) := Classical.propDecidable _
theorem one_parts {e : Ent} (h : oneI e = 0) : 1 ≤ e.index ∧ e.index ≤ 4294967296 ∧ mayP e.round e.node ∧ cmdI e.cmd = 0 := by
  unfold oneI at h
  split at h
  · omega
  · rename_i hc
    have h1 : ¬ e.index < 1 := fun hh => hc (.inl hh)
    have h2 : ¬ 4294967296 < e.index := fun hh => hc (.inr (.inl hh))
    have h3 : mayP e.round e.node := Decidable.not_not.1 fun hh => hc (.inr (.inr hh))
    exact ⟨by omega, by omega, h3, h⟩
theorem good_check {H : Hd} (h : CheckP H) {n : Nat} (ha : H.acc.length ≤ n) (hc : H.cho.length ≤ n) (oa : ∀ e ∈ H.acc, e.ok) (oc : ∀ e ∈ H.cho, e.ok) : Good n H := by
  obtain ⟨h1, h2, h3, h4, h5, h6, h7, h8⟩ := h
  refine ⟨h1, h2, ⟨h3, h4⟩, chk_rise h5, chk_rise h6, ha, hc, fun e he => ?_, fun e he => ?_⟩
  · obtain ⟨a1, a2, a3⟩ := h7 e he
    exact ⟨chk_one h5 e he, oa e he, a1, a2, a3⟩
  · obtain ⟨a1, a2⟩ := h8 e he
    have hm := (one_parts (chk_one h6 e he)).2.2.1
    refine ⟨chk_one h6 e he, oc e he, a1, a2, ?_⟩
    unfold mayP at hm
    omega
/-! ### The records -/
def imgRec (b : Int) (im : List Int) : Rc := ⟨4, 0, 0, b, zeroC, im⟩
def promRec (r n : Int) : Rc := ⟨1, r, n, 0, zeroC, []⟩
def accRec (e : Ent) : Rc := ⟨2, e.round, e.node, e.index, e.cmd, []⟩
def choRec (e : Ent) : Rc := ⟨3, 0, 0, e.index, e.cmd, []⟩
def recsOf (H : Hd) : List Rc := (if 0 < H.base then [imgRec H.base H.image] else []) ++ ((if H.pr = 0 ∧ H.pn = 0 then [] else [promRec H.pr H.pn]) ++ (H.acc.map accRec ++ H.cho.map choRec))
theorem img_ok {b : Int} {im : List Int} (hb : 1 ≤ b ∧ b ≤ 4294967296) (hl : 0 < im.length ∧ im.length ≤ 32768) : chkI (imgRec b im) = 0 := by
  show recI 4 0 0 b zeroC im.length = 0
  unfold recI ranP
  rw [if_neg (by omega), if_neg (fun hh => hh ⟨fun h => by omega, fun _ => hb⟩), if_neg (by omega), if_neg (by omega), if_neg]
  unfold othP
  rintro (⟨_, h⟩ | ⟨h, _⟩ | ⟨_, h⟩ | h)
  · exact h ⟨rfl, rfl⟩
  · omega
  · exact h rfl
  · exact h ⟨fun _ => hl.1, fun _ => rfl⟩
theorem promRec_ok {r n : Int} (hm : mayP r n) (h : ¬ (r = 0 ∧ n = 0)) : chkI (promRec r n) = 0 := by
  show recI 1 r n 0 zeroC 0 = 0
  unfold recI ranP
  rw [if_neg (by omega), if_neg (fun hh => hh ⟨fun _ => ⟨hm, h⟩, fun h => by omega⟩), if_neg (by omega), if_neg (by omega), if_neg]
  unfold othP
  rintro (⟨h, _⟩ | ⟨_, h⟩ | ⟨_, h⟩ | h)
  · exact h (.inl rfl)
  · exact h rfl
  · exact h rfl
  · exact h ⟨fun h => by omega, fun h => by omega⟩
theorem accRec_ok {e : Ent} (h : oneI e = 0) (hr : e.round ≠ 0) : chkI (accRec e) = 0 := by
  obtain ⟨h1, h2, h3, h4⟩ := one_parts h
  show recI 2 e.round e.node e.index e.cmd 0 = 0
  unfold recI ranP
  rw [if_neg (by omega), if_neg (fun hh => hh ⟨fun _ => ⟨h3, fun h => hr h.1⟩, fun _ => ⟨h1, h2⟩⟩), if_neg (by omega), if_neg (fun hh => hh.2 h4), if_neg]
  unfold othP
  rintro (⟨h, _⟩ | ⟨h, _⟩ | ⟨h, _⟩ | h)
  · exact h (.inr rfl)
  · omega
  · exact h (.inl rfl)
  · exact h ⟨fun h => by omega, fun h => by omega⟩
theorem choRec_ok {e : Ent} (h : oneI e = 0) : chkI (choRec e) = 0 := by
  obtain ⟨h1, h2, h3, h4⟩ := one_parts h
  show recI 3 0 0 e.index e.cmd 0 = 0
  unfold recI ranP
  rw [if_neg (by omega), if_neg (fun hh => hh ⟨fun h => by omega, fun _ => ⟨h1, h2⟩⟩), if_neg (by omega), if_neg (fun hh => hh.2 h4), if_neg]
  unfold othP
  rintro (⟨_, h⟩ | ⟨h, _⟩ | ⟨h, _⟩ | h)
  · exact h ⟨rfl, rfl⟩
  · omega
  · exact h (.inr rfl)
  · exact h ⟨fun h => by omega, fun h => by omega⟩
theorem ins_last {x : Ent} : ∀ {l : List Ent}, (∀ y ∈ l, y.index < x.index) → ins x l = l ++ [x]
  | [], _ => rfl
  | y :: l, h => by rw [ins_cons, if_pos (h y List.mem_cons_self), ins_last fun z hz => h z (List.mem_cons_of_mem _ hz)]; rfl
theorem rise_split {l1 l2 : List Ent} {e : Ent} (h : RiseL (l1 ++ e :: l2)) : RiseL l1 ∧ ∀ y ∈ l1, y.index < e.index := by
  have hp := rise_pw.1 h
  rw [List.pairwise_append] at hp
  exact ⟨rise_pw.2 hp.1, fun y hy => hp.2.2 y hy e List.mem_cons_self⟩
theorem acc_fold {r n b : Int} {im : List Int} : ∀ (l2 l1 : List Ent), RiseL (l1 ++ l2) → (∀ e ∈ l2, oneI e = 0 ∧ b < e.index ∧ e.round ≠ 0 ∧ ¬ lessP r n e.round e.node) → (l2.map accRec).foldl stepH ⟨r, n, b, im, l1, []⟩ = ⟨r, n, b, im, l1 ++ l2, []⟩
  | [], l1, _, _ => by simp
  | e :: l2, l1, hr, h => by
    obtain ⟨a1, a2, a3, a4⟩ := h e List.mem_cons_self
    obtain ⟨r1, r2⟩ := rise_split hr
    have es : stepH ⟨r, n, b, im, l1, []⟩ (accRec e) = ⟨r, n, b, im, l1 ++ [e], []⟩ := by
      unfold stepH
      rw [if_pos (accRec_ok a1 a3)]
      unfold chg
      rw [if_neg (by simp [accRec]), if_pos (show (accRec e).kind = 2 from rfl)]
      have ep : (⟨r, n, b, im, l1, []⟩ : Hd).prom (accRec e) = ⟨r, n, b, im, l1, []⟩ := by
        unfold Hd.prom
        rw [if_neg]
        exact a4
      rw [ep, if_pos (by exact a2), withL_ins r1]
      have eo : entOf (accRec e) = e := rfl
      rw [eo, ins_last r2]
    rw [List.map_cons, List.foldl_cons, es, acc_fold l2 (l1 ++ [e]) (by simpa using hr) fun x hx => h x (List.mem_cons_of_mem _ hx)]
    simp
theorem cho_fold {r n b : Int} {im : List Int} {ac : List Ent} : ∀ (l2 l1 : List Ent), RiseL (l1 ++ l2) → (∀ e ∈ l2, oneI e = 0 ∧ b < e.index ∧ e.round = 0 ∧ e.node = 0) → (l2.map choRec).foldl stepH ⟨r, n, b, im, ac, l1⟩ = ⟨r, n, b, im, ac, l1 ++ l2⟩
  | [], l1, _, _ => by simp
  | e :: l2, l1, hr, h => by
    obtain ⟨a1, a2, a3, a4⟩ := h e List.mem_cons_self
    obtain ⟨r1, r2⟩ := rise_split hr
    have es : stepH ⟨r, n, b, im, ac, l1⟩ (choRec e) = ⟨r, n, b, im, ac, l1 ++ [e]⟩ := by
      unfold stepH
      rw [if_pos (choRec_ok a1)]
      unfold chg
      have hh : hitB l1 e.index = false := by
        cases hb : hitB l1 e.index with
        | false => rfl
        | true =>
          obtain ⟨y, hy, hi⟩ := (hitB_iff r1 _).1 hb
          have := r2 y hy
          omega
      rw [if_neg (by simp [choRec]), if_neg (by simp [choRec]), if_pos (show (choRec e).kind = 3 from rfl), if_pos ⟨hh, a2⟩]
      have eo : (⟨(choRec e).index, 0, 0, (choRec e).cmd⟩ : Ent) = e := by
        obtain ⟨i, rr, nn, c⟩ := e
        simp only at a3 a4
        subst a3 a4
        rfl
      rw [eo, withL_ins r1, ins_last r2]
    rw [List.map_cons, List.foldl_cons, es, cho_fold l2 (l1 ++ [e]) (by simpa using hr) fun x hx => h x (List.mem_cons_of_mem _ hx)]
    simp
theorem hardOf_recs {H : Hd} {n : Nat} (h : CheckP H) (g : Good n H) : hardOf (recsOf H) = H := by
  obtain ⟨h1, h2, h3, h4, h5, h6, h7, h8⟩ := h
  unfold hardOf recsOf
  rw [List.foldl_append, List.foldl_append, List.foldl_append]
  have e1 : (if 0 < H.base then [imgRec H.base H.image] else []).foldl stepH Hd.zero = ⟨0, 0, H.base, H.image, [], []⟩ := by
    by_cases hb : 0 < H.base
    · rw [if_pos hb, List.foldl_cons, List.foldl_nil]
      have hl := h4.1 hb
      unfold stepH
      rw [if_pos (img_ok (by omega) (by omega))]
      unfold chg
      rw [if_neg (by simp [imgRec]), if_neg (by simp [imgRec]), if_neg (by simp [imgRec]), if_neg (by simp [imgRec, Hd.zero]; omega)]
      simp [imgRec, Hd.zero]
    · rw [if_neg hb]
      have hb0 : H.base = 0 := by omega
      have hi0 : H.image = [] := by
        cases hi : H.image with
        | nil => rfl
        | cons a t =>
          have : 0 < H.base := h4.2 (by rw [hi]; simp)
          omega
      rw [hb0, hi0]
      rfl
  have e2 : (if H.pr = 0 ∧ H.pn = 0 then [] else [promRec H.pr H.pn]).foldl stepH ⟨0, 0, H.base, H.image, [], []⟩ = ⟨H.pr, H.pn, H.base, H.image, [], []⟩ := by
    by_cases hb : H.pr = 0 ∧ H.pn = 0
    · rw [if_pos hb, hb.1, hb.2]
      rfl
    · rw [if_neg hb, List.foldl_cons, List.foldl_nil]
      unfold stepH
      rw [if_pos (promRec_ok h1 hb)]
      unfold chg
      rw [if_pos (show (promRec H.pr H.pn).kind = 1 from rfl)]
      unfold Hd.prom
      rw [if_pos]
      · rfl
      · show lessP 0 0 H.pr H.pn
        unfold lessP
        unfold mayP at h1
        omega
  rw [e1, e2, acc_fold H.acc [] (by simpa using g.racc) fun e he => ⟨chk_one h5 e he, h7 e he⟩, List.nil_append, cho_fold H.cho [] (by simpa using g.rcho) fun e he => ⟨chk_one h6 e he, (h8 e he).1, (h8 e he).2, (g.cho e he).2.2.2.2⟩]
  simp
theorem recs_len {H : Hd} : (recsOf H).length ≤ 2 + H.acc.length + H.cho.length := by
  unfold recsOf
  simp only [List.length_append, List.length_map]
  split <;> split <;> simp <;> omega
theorem recs_ok {H : Hd} {n : Nat} (g : Good n H) : ∀ x ∈ recsOf H, x.cmd.ok ∧ x.small := by
  have hm := g.may
  have hb := g.base
  unfold mayP at hm
  intro x hx
  unfold recsOf at hx
  simp only [List.mem_append, List.mem_map] at hx
  obtain hx | hx | ⟨e, he, rfl⟩ | ⟨e, he, rfl⟩ := hx
  · split at hx
    · rw [List.mem_singleton] at hx
      subst hx
      refine ⟨zeroC_ok, ?_⟩
      unfold Rc.small imgRec
      simp only
      omega
    · simp at hx
  · split at hx
    · simp at hx
    · rw [List.mem_singleton] at hx
      subst hx
      refine ⟨zeroC_ok, ?_⟩
      unfold Rc.small promRec
      simp only
      omega
  · obtain ⟨a1, a2, a3, a4, a5⟩ := g.acc e he
    obtain ⟨b1, b2, b3, b4⟩ := one_parts a1
    unfold mayP at b3
    refine ⟨a2.2.2.2, ?_⟩
    unfold Rc.small accRec
    simp only
    omega
  · obtain ⟨a1, a2, a3, a4, a5⟩ := g.cho e he
    obtain ⟨b1, b2, b3, b4⟩ := one_parts a1
    refine ⟨a2.2.2.2, ?_⟩
    unfold Rc.small choRec
    simp only
    omega
end Go.Proofs.YtnoiahlpmgbhfaaDoor
/-
  hard (layer 19), the seventeenth part: too heavy ones; Check, decided.
-/
set_option linter.unusedSimpArgs false
set_option linter.unusedVariables false
namespace Go.Proofs.YtnoiahlpmgbhfaaDoor
open Go.Vx Go.ChangeShapes Go.WideShapes Go.ChangeAt Go.RowKit
theorem heavy_s {G : GH} {H : Hd} {L : List Value} (hh : HdV G H L) : Con Tryd.prog 46 #[.agg L.toArray] G [] (fun r G' μ' => G' = G ∧ μ' = [] ∧ ∃ b, r = .bool b ∧ (b = false → H.image.length ≤ 300 ∧ H.acc.length ≤ 40 ∧ H.cho.length ≤ 40)) := by
  obtain ⟨iv, av, cv, rfl, hi, ha, hc⟩ := hh
  have q1 := entLargeB_s ha
  have q2 := entLargeB_s hc
  obtain ⟨A0, c0, rfl, -, hm0, -⟩ := hi.openInt
  obtain ⟨A1, c1, rfl, -⟩ := ha.open
  obtain ⟨A2, c2, rfl, -⟩ := hc.open
  simp only [maxLen] at hm0
  refine v_enter Tryd.func46 rfl Tryd.ntmps46 rfl (fun B => ?_)
  repeat' (first | apply v_seq | apply v_region | apply v_nil | (apply v_take; (case hg => rfl)) | (apply v_pass; (case hg => rfl); (case hn => rfl); (case hd => rfl)) | (apply v_pure; (case hop => first | (apply p_move <;> rfl) | (apply p_gt <;> rfl) | (apply p_assign <;> rfl) | (apply p_pickT <;> rfl) | (apply p_lenSlice <;> rfl) | (apply p_fieldAddrB <;> rfl) | fail); (case hd => rfl)) | (apply v_guardB; (case h1 => rfl); (case h2 => rfl); all_goals (intro h; (try simp only [reduceCtorEq, dec_true, dec_false, decide_eq_true_eq, decide_eq_false_iff_not, Bool.not_eq_true', Bool.not_eq_false', Option.isNone_iff_eq_none, beq_true, beq_false, beq_iff_eq, beq_eq_false_iff_ne, ne_eq, decide_eq_decide, Bool.not_eq_true, Bool.not_eq_false, Decidable.not_not] at h); first | skip)) | (apply v_read; (case hop => first | (apply r_load1; rfl; (apply Cell.own; (case h => (repeat (first | exact List.Mem.head _ | fail))); rfl)) | fail); (case hd => rfl)) | (apply v_box; (case hx => rfl); (case hz => rfl); (case hd => rfl); intro b) | fail)
  · refine v_ret [] (outsA1 rfl rfl) (by repeat (first | exact List.nil_sublist _ | fail)) ?_
    exact ⟨rfl, rfl, _, rfl, fun h => by cases h⟩
  refine v_call (μ1 := []) (μ2 := _) rfl q1 (List.Perm.refl _) rfl ?_
  rintro _ G1 _ - ⟨rfl, rfl, b1, rfl, hb1⟩
  cases b1
  · repeat' (first | (apply v_take; (case hg => rfl)) | (apply v_pure; (case hop => first | (apply p_move <;> rfl) | (apply p_pickF <;> rfl) | (apply p_fieldAddrB <;> rfl) | fail); (case hd => rfl)) | (apply v_read; (case hop => first | (apply r_load1; rfl; (apply Cell.own; (case h => (repeat (first | exact List.Mem.head _ | fail))); rfl)) | fail); (case hd => rfl)) | fail)
    refine v_call (μ1 := []) (μ2 := _) rfl q2 (List.Perm.refl _) rfl ?_
    rintro _ G2 _ - ⟨rfl, rfl, b2, rfl, hb2⟩
    cases b2
    · repeat' (first | apply v_nil | (apply v_pure; (case hop => first | (apply p_assign <;> rfl) | (apply p_pickF <;> rfl) | fail); (case hd => rfl)) | fail)
      refine v_ret [] (outsA1 rfl rfl) (by repeat (first | exact List.nil_sublist _ | fail)) ?_
      exact ⟨rfl, rfl, _, rfl, fun _ => ⟨by omega, hb1 rfl, hb2 rfl⟩⟩
    · repeat' (first | apply v_nil | (apply v_pure; (case hop => first | (apply p_assign <;> rfl) | (apply p_pickF <;> rfl) | fail); (case hd => rfl)) | fail)
      refine v_ret [] (outsA1 rfl rfl) (by repeat (first | exact List.nil_sublist _ | fail)) ?_
      exact ⟨rfl, rfl, _, rfl, fun h => by cases h⟩
  · repeat' (first | apply v_nil | (apply v_pass; (case hg => rfl); (case hn => rfl); (case hd => rfl)) | (apply v_pure; (case hop => first | (apply p_move <;> rfl) | (apply p_assign <;> rfl) | (apply p_pickT <;> rfl) | (apply p_pickF <;> rfl) | fail); (case hd => rfl)) | fail)
    refine v_ret [] (outsA1 rfl rfl) (by repeat (first | exact List.nil_sublist _ | fail)) ?_
    exact ⟨rfl, rfl, _, rfl, fun h => by cases h⟩
/-! ### One that fits -/
theorem idx_s {G : GH} {l : List Ent} {sv : Value} (hs : Es G sv l) (f : FuncId) [Callable Tryd.prog f] (cap : List Value) (μ1 : OH) (p : Ent → Bool) (hf : ∀ e ∈ l, Con Tryd.prog f ([] ++ [Value.agg e.cells.toArray] ++ cap).toArray G μ1 (Keeps (.bool (p e)) G μ1)) :
    Con Tryd.prog 128 #[sv, .func (.func f) #[] cap.toArray] G μ1 (fun r G' μ' => G' = G ∧ μ' = μ1 ∧ ∃ z, r = .int .i64 z ∧ (0 ≤ z ↔ l.any p = true)) := by
  obtain ⟨A, c, rfl, hlc, hcm, hsome, hcp, -, -, hok⟩ := esOpen hs
  simp only [maxLen] at hcm
  refine v_enter Tryd.func128 rfl Tryd.ntmps128 rfl (fun B => ?_)
  repeat' (first | apply v_seq | apply v_region | apply v_nil | apply v_block | (apply v_pure; (case hop => first | (apply p_move <;> rfl) | (apply p_assign <;> rfl) | (apply p_lenSlice <;> rfl) | fail); (case hd => rfl)) | fail)
  refine v_loop [8, 7, 0, 1] (fun us G' μ' => G' = G ∧ μ' = μ1 ∧ ∃ k, k ≤ l.length ∧ us = [Value.int .i64 (k : Nat), .int .i64 (l.length : Nat), .slice A l.length c, .func (.func f) #[] cap.toArray] ∧ ∀ i (h : i < l.length), i < k → p l[i] = false) (fun us => l.length - (headI us).toNat) rfl ⟨rfl, rfl, 0, by omega, rfl, by omega⟩ ?_
  rintro us G' μ' ⟨rfl, rfl, k, hk, rfl, hno⟩
  have e1 : ((k : Nat) : Int).toNat = k := by omega
  by_cases hlt : k < l.length
  · have kc := hcp k hlt
    have hfk := hf _ (List.getElem_mem hlt)
    cases hpe : p l[k]
    · rw [hpe] at hfk
      repeat' (first | apply v_seq | apply v_region | apply v_nil | apply v_skip | apply v_block | apply v_blk | (apply v_pure; (case hop => first | (apply p_move <;> rfl) | (apply p_lt <;> rfl) | (apply p_assign <;> rfl) | (apply p_add; (case hx => rfl); (case hy => rfl); (case h => omega)) | (apply p_indexAddrS; (case hx => rfl); (case hi => rfl); (case h0 => omega); (case h => omega); (case hA => first | (apply_assumption; omega))) | fail); (case hd => rfl)) | (apply v_condF; (case hc => rfl)) | (apply v_cond; (case hc => rfl); all_goals (intro h; (try simp only [reduceCtorEq, dec_true, dec_false, decide_eq_true_eq, decide_eq_false_iff_not, Bool.not_eq_true', Bool.not_eq_false', Option.isNone_iff_eq_none, beq_true, beq_false, beq_iff_eq, beq_eq_false_iff_ne, ne_eq, decide_eq_decide, Bool.not_eq_true, Bool.not_eq_false, Decidable.not_not] at h); first | (exfalso; omega) | skip)) | (apply v_read; (case hop => first | (apply r_loadN; rfl; exact CellsAt.frozen kc; rfl)); (case hd => rfl)) | (apply v_callCK (first := []) (captured := cap) (hs := hfk) (hx := rfl) (ha := rfl) (hp := (by simp : List.Perm _ (_ ++ [])));  (case hd => rfl)) | fail)
      refine v_again rfl ⟨rfl, rfl, k + 1, by omega, rfl, fun i h hi => ?_⟩ (by simp [headI]; omega)
      by_cases hik : i = k
      · subst hik; exact hpe
      · exact hno i h (by omega)
    · rw [hpe] at hfk
      repeat' (first | apply v_seq | apply v_region | apply v_nil | apply v_skip | apply v_block | (apply v_pure; (case hop => first | (apply p_move <;> rfl) | (apply p_lt <;> rfl) | (apply p_assign <;> rfl) | (apply p_indexAddrS; (case hx => rfl); (case hi => rfl); (case h0 => omega); (case h => omega); (case hA => first | (apply_assumption; omega))) | fail); (case hd => rfl)) | (apply v_condT; (case hc => rfl)) | (apply v_cond; (case hc => rfl); all_goals (intro h; (try simp only [reduceCtorEq, dec_true, dec_false, decide_eq_true_eq, decide_eq_false_iff_not, Bool.not_eq_true', Bool.not_eq_false', Option.isNone_iff_eq_none, beq_true, beq_false, beq_iff_eq, beq_eq_false_iff_ne, ne_eq, decide_eq_decide, Bool.not_eq_true, Bool.not_eq_false, Decidable.not_not] at h); first | (exfalso; omega) | skip)) | (apply v_read; (case hop => first | (apply r_loadN; rfl; exact CellsAt.frozen kc; rfl)); (case hd => rfl)) | (apply v_callCK (first := []) (captured := cap) (hs := hfk) (hx := rfl) (ha := rfl) (hp := (by simp : List.Perm _ (_ ++ [])));  (case hd => rfl)) | fail)
      refine v_ret μ' (outsA1 rfl rfl) (List.Sublist.refl _) ?_
      refine ⟨rfl, rfl, _, rfl, fun _ => ?_, fun _ => by omega⟩
      rw [List.any_eq_true]
      exact ⟨_, List.getElem_mem hlt, hpe⟩
  · repeat' (first | apply v_seq | apply v_region | apply v_nil | (apply v_exit; (case hp => rfl)) | (apply v_pure; (case hop => first | (apply p_lt <;> rfl) | (apply p_assign <;> rfl) | fail); (case hd => rfl)) | (apply v_cond; (case hc => rfl); all_goals (intro h; (try simp only [reduceCtorEq, dec_true, dec_false, decide_eq_true_eq, decide_eq_false_iff_not, Bool.not_eq_true', Bool.not_eq_false', Option.isNone_iff_eq_none, beq_true, beq_false, beq_iff_eq, beq_eq_false_iff_ne, ne_eq, decide_eq_decide, Bool.not_eq_true, Bool.not_eq_false, Decidable.not_not] at h); first | (exfalso; omega) | skip)) | fail)
    refine v_ret μ' (outsA1 rfl rfl) (List.Sublist.refl _) ?_
    refine ⟨rfl, rfl, _, rfl, fun h => by omega, fun h => ?_⟩
    rw [List.any_eq_true] at h
    obtain ⟨e, he, h⟩ := h
    obtain ⟨i, hi, rfl⟩ := List.getElem_of_mem he
    rw [hno i hi (by omega)] at h
    cases h
theorem has_s {G : GH} {l : List Ent} {sv : Value} (hs : Es G sv l) (f : FuncId) [Callable Tryd.prog f] (cap : List Value) (μ1 : OH) (p : Ent → Bool) (hf : ∀ e ∈ l, Con Tryd.prog f ([] ++ [Value.agg e.cells.toArray] ++ cap).toArray G μ1 (Keeps (.bool (p e)) G μ1)) :
    Con Tryd.prog 84 #[sv, .func (.func f) #[] cap.toArray] G μ1 (Keeps (.bool (l.any p)) G μ1) := by
  have q := idx_s hs f cap μ1 p hf
  apply Con.keeps
  refine v_enter Tryd.func84 rfl Tryd.ntmps84 rfl (fun B => ?_)
  repeat' (first | apply v_seq | apply v_region | apply v_nil | (apply v_pure; (case hop => first | (apply p_move <;> rfl) | (apply p_assign <;> rfl)); (case hd => rfl)) | fail)
  refine v_call (μ1 := μ1) (μ2 := []) rfl q (by simp) rfl ?_
  rintro _ G1 μ1 - ⟨rfl, rfl, z, rfl, hz⟩
  repeat' (first | apply v_nil | (apply v_pure; (case hop => first | (apply p_ge <;> rfl) | (apply p_assign <;> rfl)); (case hd => rfl)) | fail)
  refine v_ret μ1 (outsA1 rfl rfl) (List.sublist_append_left _ _) ?_
  refine ⟨?_, rfl⟩
  rw [dec_eq]
  congr 1
  rw [Bool.eq_iff_iff, decide_eq_true_iff, hz]
end Go.Proofs.YtnoiahlpmgbhfaaDoor
/-
  hard (layer 19), the eighteenth part: Check, decided.
-/
set_option linter.unusedSimpArgs false
set_option linter.unusedVariables false
namespace Go.Proofs.YtnoiahlpmgbhfaaDoor
open Go.Vx Go.ChangeShapes Go.WideShapes Go.ChangeAt Go.RowKit
def accBad (H : Hd) (e : Ent) : Bool := decide (e.index ≤ H.base ∨ (e.round = 0 ∧ e.node = 0) ∨ lessP H.pr H.pn e.round e.node)
def choBad (H : Hd) (e : Ent) : Bool := decide (e.index ≤ H.base ∨ ¬ (e.round = 0 ∧ e.node = 0))
theorem acc1_s (G : GH) (hb : Nat) (H : Hd) (iv av cv : Value) (x : Ent) : Con Tryd.prog 81 #[.agg x.cells.toArray, .pointer (some ⟨hb, 0, none⟩)] G [(hb, hardO (hdL H.pr H.pn H.base iv av cv))] (Keeps (.bool (accBad H x)) G [(hb, hardO (hdL H.pr H.pn H.base iv av cv))]) := by
  have ql := less_s G H.pr H.pn x.round x.node
  unfold accBad
  generalize hlb : decide (lessP H.pr H.pn x.round x.node) = lb at *
  apply Con.keeps
  refine v_enter Tryd.func81 rfl Tryd.ntmps81 rfl (fun B => ?_)
  repeat' (first | (apply v_pure; (case hop => (apply eqBal; (case hx => rfl); (case hy => rfl))); (case hd => rfl)) | apply v_seq | apply v_region | apply v_nil | (apply v_take; (case hg => rfl)) | (apply v_pass; (case hg => rfl); (case hn => rfl); (case hd => rfl)) | (apply v_pure; (case hop => first | (apply p_move <;> rfl) | (apply p_le <;> rfl) | (apply p_assign <;> rfl) | (apply p_pickT <;> rfl) | (apply p_pickF <;> rfl) | (apply p_fieldAddrB <;> rfl) | (apply p_build; (case hz => rfl); (case hv => (simp only [List.map_cons, List.map_nil]; repeat (first | with_reducible exact evs_nil | fail))); (case hb => (apply bldL; repeat (first | exact bld_nil | fail)))) | fail); (case hd => rfl)) | (apply v_guardB; (case h1 => rfl); (case h2 => rfl); all_goals (intro h; (try simp only [reduceCtorEq, dec_true, dec_false, decide_eq_true_eq, decide_eq_false_iff_not, Bool.not_eq_true', Bool.not_eq_false', Option.isNone_iff_eq_none, beq_true, beq_false, beq_iff_eq, beq_eq_false_iff_ne, ne_eq, decide_eq_decide, Bool.not_eq_true, Bool.not_eq_false, Decidable.not_not] at h); first | skip)) | (apply v_box (zs := x.cells); (case hx => rfl); (case hz => rfl); (case hd => rfl); intro b) | (apply v_callJ (hs := ql); (case ha => rfl); (case hd => rfl)) | (apply v_read; (case hop => first | (apply r_loadNo; (case hx => rfl); (case h => (repeat (first | exact List.Mem.head _ | apply List.Mem.tail | fail))); (case hd => (repeat (first | with_reducible exact dt_nil | apply dt_here | fail))); (case hn => rfl)) | (apply r_load1; rfl; (apply Cell.own; (case h => (repeat (first | exact List.Mem.head _ | apply List.Mem.tail | fail))); rfl)) | fail); (case hd => rfl)) | fail)
  all_goals
    (refine v_ret [(hb, _)] (outsA1 rfl rfl) (by repeat (first | exact List.Sublist.refl _ | apply List.Sublist.cons | fail)) ?_
     refine ⟨?_, rfl⟩)
  · rw [decide_eq_true (.inl h)]
  · rw [decide_eq_true (.inr (.inl h))]
  · subst hlb
    congr 1
    rw [decide_eq_decide]
    exact ⟨fun hh => .inr (.inr hh), fun hh => by
      obtain hh | hh | hh := hh
      · contradiction
      · contradiction
      · exact hh⟩
theorem cho1_s (G : GH) (hb : Nat) (H : Hd) (iv av cv : Value) (x : Ent) : Con Tryd.prog 83 #[.agg x.cells.toArray, .pointer (some ⟨hb, 0, none⟩)] G [(hb, hardO (hdL H.pr H.pn H.base iv av cv))] (Keeps (.bool (choBad H x)) G [(hb, hardO (hdL H.pr H.pn H.base iv av cv))]) := by
  unfold choBad
  apply Con.keeps
  refine v_enter Tryd.func83 rfl Tryd.ntmps83 rfl (fun B => ?_)
  repeat' (first | (apply v_pure; (case hop => (apply neBal; (case hx => rfl); (case hy => rfl))); (case hd => rfl)) | apply v_seq | apply v_region | apply v_nil | (apply v_take; (case hg => rfl)) | (apply v_pass; (case hg => rfl); (case hn => rfl); (case hd => rfl)) | (apply v_pure; (case hop => first | (apply p_move <;> rfl) | (apply p_le <;> rfl) | (apply p_assign <;> rfl) | (apply p_pickT <;> rfl) | (apply p_pickF <;> rfl) | (apply p_fieldAddrB <;> rfl) | (apply p_build; (case hz => rfl); (case hv => (simp only [List.map_cons, List.map_nil]; repeat (first | with_reducible exact evs_nil | fail))); (case hb => (apply bldL; repeat (first | exact bld_nil | fail)))) | fail); (case hd => rfl)) | (apply v_guardB; (case h1 => rfl); (case h2 => rfl); all_goals (intro h; (try simp only [reduceCtorEq, dec_true, dec_false, decide_eq_true_eq, decide_eq_false_iff_not, Bool.not_eq_true', Bool.not_eq_false', Option.isNone_iff_eq_none, beq_true, beq_false, beq_iff_eq, beq_eq_false_iff_ne, ne_eq, decide_eq_decide, Bool.not_eq_true, Bool.not_eq_false, Decidable.not_not] at h); first | skip)) | (apply v_box (zs := x.cells); (case hx => rfl); (case hz => rfl); (case hd => rfl); intro b) | (apply v_read; (case hop => first | (apply r_loadNo; (case hx => rfl); (case h => (repeat (first | exact List.Mem.head _ | fail))); (case hd => (repeat (first | with_reducible exact dt_nil | apply dt_here | fail))); (case hn => rfl)) | (apply r_load1; rfl; (apply Cell.own; (case h => (repeat (first | exact List.Mem.head _ | apply List.Mem.tail | fail))); rfl)) | fail); (case hd => rfl)) | fail)
  all_goals
    (refine v_ret [(hb, _)] (outsA1 rfl rfl) (by repeat (first | exact List.Sublist.refl _ | apply List.Sublist.cons | fail)) ?_
     refine ⟨?_, rfl⟩)
  · rw [decide_eq_true (.inl h)]
  · congr 1
    rw [dec_eq, ← decide_not, decide_eq_decide]
    exact ⟨fun hh => .inr hh, fun hh => by
      obtain hh | hh := hh
      · contradiction
      · exact hh⟩
theorem chk_iff (H : Hd) : CheckP H ↔ mayP H.pr H.pn ∧ ¬ H.base < 0 ∧ ¬ (H.base = 0 ∧ 0 < H.image.length) ∧ (0 < H.base → recI 4 0 0 H.base zeroC H.image.length = 0) ∧ chkK H.acc 0 = 0 ∧ chkK H.cho 0 = 0 ∧ H.acc.any (accBad H) = false ∧ H.cho.any (choBad H) = false := by
  constructor
  · rintro ⟨h1, h2, h3, h4, h5, h6, h7, h8⟩
    refine ⟨h1, by omega, by omega, fun hb => img_ok (b := H.base) (im := H.image) (by omega) (by omega), h5, h6, ?_, ?_⟩
    · rw [List.any_eq_false]
      intro e he
      obtain ⟨a1, a2, a3⟩ := h7 e he
      unfold accBad
      rw [decide_eq_true_iff]
      rintro (h | h | h)
      · omega
      · exact a2 h.1
      · exact a3 h
    · rw [List.any_eq_false]
      intro e he
      obtain ⟨a1, a2⟩ := h8 e he
      have hm := (one_parts (chk_one h6 e he)).2.2.1
      unfold mayP at hm
      unfold choBad
      rw [decide_eq_true_iff]
      omega
  · rintro ⟨h1, h2, h3, h4, h5, h6, h7, h8⟩
    have hb : H.base ≤ 4294967296 ∧ H.image.length ≤ 32768 ∧ (0 < H.base ↔ 0 < H.image.length) := by
      by_cases h0 : 0 < H.base
      · obtain ⟨-, r2, r3, -, r5⟩ := rec0 (h4 h0)
        have r2' := r2.2 (.inr (.inr rfl))
        have r6 : (4 : Int) = 4 ↔ 0 < H.image.length := Decidable.not_not.1 fun hh => r5 (.inr (.inr (.inr hh)))
        have := r6.1 rfl
        omega
      · omega
    refine ⟨h1, by omega, hb.2.1, hb.2.2, h5, h6, fun e he => ?_, fun e he => ?_⟩
    · have ha := List.any_eq_false.1 h7 e he
      have hm := (one_parts (chk_one h5 e he)).2.2.1
      unfold accBad at ha
      rw [decide_eq_true_iff] at ha
      unfold mayP at hm
      exact ⟨by omega, by omega, fun h => ha (.inr (.inr h))⟩
    · have ha := List.any_eq_false.1 h8 e he
      unfold choBad at ha
      rw [decide_eq_true_iff] at ha
      omega
theorem hChk_s {G : GH} (hT : TabsG G) {H : Hd} {L : List Value} (hh : HdV G H L) : Con Tryd.prog 47 #[.agg L.toArray] G [] (Just (.int .i64 (if CheckP H then 0 else 3)) G) := by
  obtain ⟨iv, av, cv, rfl, hi, ha, hc⟩ := hh
  obtain ⟨A0, c0, rfl, hl0, hm0, -⟩ := hi.openInt
  simp only [maxLen] at hm0
  have qm := may_s G H.pr H.pn
  have qr := recCheck_s hT 4 0 0 H.base zeroC zeroC_ok A0 H.image.length c0 (by omega)
  have qa := entCheck_s hT ha
  have qc := entCheck_s hT hc
  have qA := fun hb => has_s ha 81 [.pointer (some ⟨hb, 0, none⟩)] [(hb, hardO (hdL H.pr H.pn H.base (.slice A0 H.image.length c0) av cv))] (accBad H) (fun e _ => acc1_s G hb H (.slice A0 H.image.length c0) av cv e)
  have qC := fun hb => has_s hc 83 [.pointer (some ⟨hb, 0, none⟩)] [(hb, hardO (hdL H.pr H.pn H.base (.slice A0 H.image.length c0) av cv))] (choBad H) (fun e _ => cho1_s G hb H (.slice A0 H.image.length c0) av cv e)
  have hiff := chk_iff H
  obtain ⟨A1, c1, rfl, -⟩ := ha.open
  obtain ⟨A2, c2, rfl, -⟩ := hc.open
  generalize hb1 : decide (mayP H.pr H.pn) = b1 at *
  generalize recI 4 0 0 H.base zeroC H.image.length = I1 at *
  generalize chkK H.acc 0 = I2 at *
  generalize chkK H.cho 0 = I3 at *
  generalize hb4 : H.acc.any (accBad H) = b4 at *
  generalize hb5 : H.cho.any (choBad H) = b5 at *
  apply Con.just
  refine v_enter Tryd.func47 rfl Tryd.ntmps47 rfl (fun B => ?_)
  repeat' (first | apply v_seq | apply v_region | apply v_nil | apply v_skip | (apply v_take; (case hg => rfl)) | (apply v_pass; (case hg => rfl); (case hn => rfl); (case hd => rfl)) | (apply v_passN; (case hg => rfl); (case hn => rfl); (case hd => rfl)) | (apply v_pure; (case hop => first | (apply p_move <;> rfl) | (apply p_eq <;> rfl) | (apply p_lt <;> rfl) | (apply p_gt <;> rfl) | (apply p_ne <;> rfl) | (apply p_assign <;> rfl) | (apply p_pickT <;> rfl) | (apply p_pickF <;> rfl) | (apply p_not <;> rfl) | (apply p_lenSlice <;> rfl) | (apply p_fieldAddrB <;> rfl) | (apply p_makeFunc <;> rfl) | (apply p_build; (case hz => rfl); (case hv => (simp only [List.map_cons, List.map_nil]; repeat (first | with_reducible exact evs_nil | (apply evs_cons; (case h1 => rfl))))); (case hb => (apply bldL; repeat (first | exact bld_nil | (apply bld_cons; (case hpf => rfl); (case hc => rfl); (case hs => rfl); (case hl => rfl); (case ho => (first | ((repeat (first | with_reducible exact ov_nil | apply ov_cons | fail)); done) | fail))))))) | fail); (case hd => rfl)) | (apply v_condT; (case hc => rfl)) | (apply v_condF; (case hc => rfl)) | (apply v_cond; (case hc => rfl); all_goals (intro h; (try simp only [reduceCtorEq, dec_true, dec_false, decide_eq_true_eq, decide_eq_false_iff_not, Bool.not_eq_true', Bool.not_eq_false', Option.isNone_iff_eq_none, beq_true, beq_false, beq_iff_eq, beq_eq_false_iff_ne, ne_eq, decide_eq_decide, Bool.not_eq_true, Bool.not_eq_false, Decidable.not_not] at h); first | skip)) | (apply v_guardB; (case h1 => rfl); (case h2 => rfl); all_goals (intro h; (try simp only [reduceCtorEq, dec_true, dec_false, decide_eq_true_eq, decide_eq_false_iff_not, Bool.not_eq_true', Bool.not_eq_false', Option.isNone_iff_eq_none, beq_true, beq_false, beq_iff_eq, beq_eq_false_iff_ne, ne_eq, decide_eq_decide, Bool.not_eq_true, Bool.not_eq_false, Decidable.not_not] at h); first | (exfalso; omega) | skip)) | (apply v_callJ (hs := qm); (case ha => rfl); (case hd => rfl)) | (apply v_callJ (hs := qr); (case ha => rfl); (case hd => rfl)) | (apply v_callJ (hs := qa); (case ha => rfl); (case hd => rfl)) | (apply v_callJ (hs := qc); (case ha => rfl); (case hd => rfl)) | (apply v_callK (hs := qA _); (case ha => rfl); (case hp => first | exact (Pick.perm (by repeat (first | exact Pick.here _ | fail))) | fail); (case hd => rfl)) | (apply v_callK (hs := qC _); (case ha => rfl); (case hp => first | exact (Pick.perm (by repeat (first | exact Pick.here _ | fail))) | fail); (case hd => rfl)) | (apply v_read; (case hop => first | (apply r_loadNo; (case hx => rfl); (case h => (repeat (first | exact List.Mem.head _ | fail))); (case hd => (repeat (first | with_reducible exact dt_nil | apply dt_here | fail))); (case hn => rfl)) | (apply r_load1; rfl; (apply Cell.own; (case h => (repeat (first | exact List.Mem.head _ | fail))); rfl)) | fail); (case hd => rfl)) | (apply v_box; (case hx => rfl); (case hz => rfl); (case hd => rfl); intro b) | fail)
  all_goals
    (refine v_ret [] (outsA1 rfl rfl) (by repeat (first | exact List.nil_sublist _ | fail)) ?_
     refine ⟨?_, rfl⟩
     first
       | (rw [if_pos (hiff.2 ⟨of_decide_eq_true (hb1.trans (by assumption)), by omega, by omega, fun _ => by omega, by assumption, by assumption, by assumption, by assumption⟩)]; done)
       | (rw [if_neg (fun hh => by
            obtain ⟨z1, z2, z3, z4, z5, z6, z7, z8⟩ := hiff.1 hh
            first
              | omega
              | exact absurd ((decide_eq_true z1).symm.trans (hb1.trans ‹b1 = false›)) (by decide)
              | exact absurd (z7.symm.trans ‹b4 = true›) (by decide)
              | exact absurd (z8.symm.trans ‹b5 = true›) (by decide))]; done)
       | skip)
end Go.Proofs.YtnoiahlpmgbhfaaDoor
