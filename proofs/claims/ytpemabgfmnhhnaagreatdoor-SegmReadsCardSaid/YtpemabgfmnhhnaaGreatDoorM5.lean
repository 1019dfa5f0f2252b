/-
  hard (layer 19), the sixth part: an image; any record.
-/
import Derived.Test.YtpemabgfmnhhnaaGreatDoorM4
import Derived.Test.YtpemabgfmnhhnaaGreatDoorM3
import Derived.Test.YtpemabgfmnhhnaaGreatDoorM1
import Derived.Test.YtpemabgfmnhhnaaGreatDoorM2
import VxDev
import Derived.Lib.LaidTab
import Derived.Test.YtpemabgfmnhhnaaGreatDoorRows
import Derived.Test.YtpemabgfmnhhnaaGreatDoorChecked
import Derived.JoinedOf
import Derived.SevenTiedAt
import Derived.LaidMore
import Derived.Lay
import Derived.Test.YtpemabgfmnhhnaaGreatDoorTie
import Derived.Test.YtpemabgfmnhhnaaGreatDoorCards
import Derived.Stop.Joined
set_option linter.unusedSimpArgs false
set_option linter.unusedVariables false
namespace Go.Proofs.YtpemabgfmnhhnaaGreatDoor
open Go.Vx Go.ChangeShapes Go.WideShapes Go.ChangeAt Go.RowKit
noncomputable def takeH (h : Hd) (x : Rc) : Hd := if x.index ≤ h.base then h else { h with base := x.index, image := x.image, acc := h.acc.drop (placeN h.acc (x.index + 1)), cho := h.cho.drop (placeN h.cho (x.index + 1)) }
theorem take_s {G : GH} {H : Hd} {L : List Value} {x : Rc} {xv : Value} {n : Nat} (hb : Nat) (hh : HdV G H L) (g : Good n H) (hn : n ≤ 200) (hx : RcV G x xv) (him : x.image.length ≤ 40000) (hxi : 0 ≤ x.index ∧ x.index ≤ 4294967296) :
    Con Tryz.prog 156 #[.pointer (some ⟨hb, 0, none⟩), xv] G [(hb, hdO L)] (fun _ G' μ' => ∃ L', μ' = [(hb, hdO L')] ∧ HdV G' (takeH H x) L') := by
  obtain ⟨im, av, cv, rfl, hi, ha, hc⟩ := hh
  obtain ⟨A0, c0, rfl, -⟩ := id hi.openInt
  obtain ⟨A1, c1, rfl, -⟩ := id ha.open
  obtain ⟨A2, c2, rfl, -⟩ := id hc.open
  obtain ⟨iv, rfl, hxv⟩ := hx
  obtain ⟨A3, c3, rfl, -⟩ := id hxv.openInt
  have qc := bclone_s hxv (by omega)
  have hwf := hxv.openInt
  obtain ⟨_, _, -, -, -, -, -, hwx⟩ := hwf
  have hna := g.nacc
  have hnc := g.ncho
  unfold takeH
  generalize hivl : Value.slice A3 x.image.length c3 = iv at *
  (refine v_enter Tryz.func156 rfl Tryz.ntmps156 rfl ?_; intro B _)
  repeat' (first | apply v_seq | apply v_region | apply v_nil | (apply v_box (zs := recL x.kind x.round x.node x.index x.cmd iv); (case hx => rfl); (case hz => rfl); (case hd => rfl); intro xb) | fail)
  refine d_start _ (by kernel_rfl) (by kernel_rfl) (by kernel_rfl) (fun _ he => he) ?_
  all_goals (apply dtk 0; (case hi => rfl); (case hop => (apply prd; apply p_fieldAddrB <;> rfl)); (case hq => kernel_rfl))
  all_goals (apply dtk 1; (case hi => rfl); (case hop => first | (apply r_loadNo; (case hx => rfl); (case h => (repeat (fail))); (case hd => (repeat (fail))); (case hn => rfl)) | (apply r_load1; rfl; (apply Cell.own; (case h => (repeat (exact mhd _))); rfl)) | (apply r_loadN; rfl; (apply CellsAt.own; (case h => (repeat (fail)))); rfl)); (case hq => kernel_rfl))
  all_goals (apply dtk 2; (case hi => rfl); (case hop => (apply prd; apply p_move <;> rfl)); (case hq => kernel_rfl))
  all_goals (apply dtk 3; (case hi => rfl); (case hop => (apply prd; apply p_nilCheck <;> rfl)); (case hq => kernel_rfl))
  all_goals (apply dtk 4; (case hi => rfl); (case hop => (apply prd; apply p_fieldAddrB <;> rfl)); (case hq => kernel_rfl))
  all_goals (apply dtk 5; (case hi => rfl); (case hop => (apply prd; apply p_fieldAddrB <;> rfl)); (case hq => kernel_rfl))
  all_goals (apply dtk 6; (case hi => rfl); (case hop => first | (apply r_loadNo; (case hx => rfl); (case h => (repeat (fail))); (case hd => (repeat (fail))); (case hn => rfl)) | (apply r_load1; rfl; (apply Cell.own; (case h => (repeat (first | exact mhd _ | apply mtl))); rfl)) | (apply r_loadN; rfl; (apply CellsAt.own; (case h => (repeat (fail)))); rfl)); (case hq => kernel_rfl))
  all_goals (apply dtk 7; (case hi => rfl); (case hop => (apply prd; apply p_le <;> rfl)); (case hq => kernel_rfl))
  all_goals (apply d_done; (case hr => kernel_rfl))
  repeat' (first | apply v_seq | apply v_skip | (apply v_cond; (case hc => rfl); all_goals (intro h; (try simp only [reduceCtorEq, zzz] at h))) | fail)
  · have hle := h
    refine v_ret [(hb, _)] (outsA0 rfl) (by repeat (first | exact List.Sublist.refl _ | apply List.Sublist.cons)) ?_
    rw [if_pos hle]
    exact ⟨_, rfl, _, _, _, rfl, hi, ha, hc⟩
  · have hgt := h
    rw [if_neg hgt]
    subst hivl
    refine d_start [(xb, .cells (recL x.kind x.round x.node x.index x.cmd (.slice A3 x.image.length c3)).toArray 42 (0, 0))] (by kernel_rfl) (by kernel_rfl) (by kernel_rfl) (by intro e he; (simp at he; simp [he]; done)) ?_
    all_goals (apply dtk 0; (case hi => rfl); (case hop => (apply prd; apply p_move <;> rfl)); (case hq => kernel_rfl))
    all_goals (apply dtk 1; (case hi => rfl); (case hop => (apply prd; apply p_move <;> rfl)); (case hq => kernel_rfl))
    all_goals (apply dtk 2; (case hi => rfl); (case hop => (apply prd; apply p_fieldAddrB <;> rfl)); (case hq => kernel_rfl))
    all_goals (apply dtk 3; (case hi => rfl); (case hop => first | (apply r_loadNo; (case hx => rfl); (case h => (repeat (fail))); (case hd => (repeat (fail))); (case hn => rfl)) | (apply r_load1; rfl; (apply Cell.own; (case h => (repeat (exact mhd _))); rfl)) | (apply r_loadN; rfl; (apply CellsAt.own; (case h => (repeat (fail)))); rfl)); (case hq => kernel_rfl))
    all_goals (apply dtk 4; (case hi => rfl); (case hop => (apply prd; apply p_fieldAddrB <;> rfl)); (case hq => kernel_rfl))
    all_goals (apply dtk 5; (case hi => rfl); (case hop => first | (apply r_loadNo; (case hx => rfl); (case h => (repeat (fail))); (case hd => (repeat (fail))); (case hn => rfl)) | (apply r_load1; rfl; (apply Cell.own; (case h => (repeat (exact mhd _))); rfl)) | (apply r_loadN; rfl; (apply CellsAt.own; (case h => (repeat (fail)))); rfl)); (case hq => kernel_rfl))
    all_goals ((apply d_call 6 (hs := qc); (case hi => rfl); (case hr => kernel_rfl);  (case ha => rfl); (case hp => exact List.Perm.refl _); (case hd => rfl); (case hν' => intro e he; simp at he; simp [he]); rintro r1 G1 ν1 - ⟨rfl, hg1⟩; obtain ⟨A4, c4, rfl, -, -⟩ := hg1.shape))
    all_goals (apply dtk 7; (case hi => rfl); (case hop => (apply prd; apply p_nilCheck <;> rfl)); (case hq => kernel_rfl))
    all_goals (apply dtk 8; (case hi => rfl); (case hop => (apply prd; apply p_fieldAddrB <;> rfl)); (case hq => kernel_rfl))
    all_goals (apply dtk 9; (case hi => rfl); (case hop => (apply prd; apply p_fieldAddrB <;> rfl)); (case hq => kernel_rfl))
    all_goals (apply d_store 10; (case hi => rfl); (case hr => kernel_rfl); (case hL => infer_instance); (case hp => rfl); (case hx => rfl); (case hc => rfl); (case hsz => rfl); (case h1 => rfl); (case hb => (repeat (first | exact mhd _ | apply mtl | apply List.mem_append_right))); (case hfit => exact nle rfl); (case hov => ((repeat (first | with_reducible exact ov_nil | apply ov_cons)); done)); (case hu => repeat (first | exact Upd.here _ _ | apply Upd.there | apply Upd.app)); (case hν' => intro e he; (simp at he; simp [he]; done)))
    all_goals (apply dtk 11; (case hi => rfl); (case hop => (apply prd; apply p_nilCheck <;> rfl)); (case hq => kernel_rfl))
    all_goals (apply dtk 12; (case hi => rfl); (case hop => (apply prd; apply p_fieldAddrB <;> rfl)); (case hq => kernel_rfl))
    all_goals (apply dtk 13; (case hi => rfl); (case hop => (apply prd; apply p_fieldAddrB <;> rfl)); (case hq => kernel_rfl))
    all_goals (apply d_store 14; (case hi => rfl); (case hr => kernel_rfl); (case hL => infer_instance); (case hp => rfl); (case hx => rfl); (case hc => rfl); (case hsz => rfl); (case h1 => rfl); (case hb => (repeat (first | exact mhd _ | apply mtl | apply List.mem_append_right))); (case hfit => exact nle rfl); (case hov => ((repeat (first | with_reducible exact ov_nil | apply ov_cons)); done)); (case hu => repeat (first | exact Upd.here _ _ | apply Upd.there | apply Upd.app)); (case hν' => intro e he; (simp at he; simp [he]; done)))
    all_goals (apply d_done; (case hr => kernel_rfl))
    repeat' (first | apply v_seq)
    refine v_frz ν1 (by repeat (exact PickA.here _)) ?_
    intro G2 hle2 hG2
    have hi2 := hg1.ints hG2 hwx
    have ha2 := esle ha hle2
    have qa := from_s (x.index + 1) ha2 g.racc (by omega)
    refine d_start [(xb, .cells (recL x.kind x.round x.node x.index x.cmd (.slice A3 x.image.length c3)).toArray 42 (0, 0))] (by kernel_rfl) (by kernel_rfl) (by kernel_rfl) (by intro e he; (simp at he; simp [he]; done)) ?_
    all_goals (apply dtk 0; (case hi => rfl); (case hop => (apply prd; apply p_move <;> rfl)); (case hq => kernel_rfl))
    all_goals (apply dtk 1; (case hi => rfl); (case hop => (apply prd; apply p_move <;> rfl)); (case hq => kernel_rfl))
    all_goals (apply dtk 2; (case hi => rfl); (case hop => (apply prd; apply p_nilCheck <;> rfl)); (case hq => kernel_rfl))
    all_goals (apply dtk 3; (case hi => rfl); (case hop => (apply prd; apply p_fieldAddrB <;> rfl)); (case hq => kernel_rfl))
    all_goals (apply dtk 4; (case hi => rfl); (case hop => (apply prd; apply p_fieldAddrB <;> rfl)); (case hq => kernel_rfl))
    all_goals (apply dtk 6; (case hi => rfl); (case hop => (apply prd; apply p_fieldAddrB <;> rfl)); (case hq => kernel_rfl))
    all_goals (apply dtk 7; (case hi => rfl); (case hop => first | (apply r_loadNo; (case hx => rfl); (case h => (repeat (fail))); (case hd => (repeat (fail))); (case hn => rfl)) | (apply r_load1; rfl; (apply Cell.own; (case h => (repeat (exact mhd _))); rfl)) | (apply r_loadN; rfl; (apply CellsAt.own; (case h => (repeat (fail)))); rfl)); (case hq => kernel_rfl))
    all_goals (apply dtk 8; (case hi => rfl); (case hop => (apply prd; apply p_add; (case hx => rfl); (case hy => rfl); (case h => omega))); (case hq => kernel_rfl))
    all_goals (apply d_keep 5 (hop := ReadOp.move ?hop); (case hi => rfl); (case hr => kernel_rfl); (case hop => (apply r_load1; rfl; (apply Cell.own; (case h => repeat (first | exact mhd _ | apply mtl)); rfl))); (case hd => rfl))
    all_goals ((apply d_call 9 (hs := qa); (case hi => rfl); (case hr => kernel_rfl);  (case ha => rfl); (case hp => exact List.Perm.refl _); (case hd => rfl); (case hν' => intro e he; simp at he; simp [he]); rintro r1 G1 ν5 - ⟨rfl, hg5⟩; obtain ⟨A5, c5, rfl, -, -⟩ := hg5.shape))
    all_goals (apply dtk 10; (case hi => rfl); (case hop => (apply prd; apply p_nilCheck <;> rfl)); (case hq => kernel_rfl))
    all_goals (apply dtk 11; (case hi => rfl); (case hop => (apply prd; apply p_fieldAddrB <;> rfl)); (case hq => kernel_rfl))
    all_goals (apply dtk 12; (case hi => rfl); (case hop => (apply prd; apply p_fieldAddrB <;> rfl)); (case hq => kernel_rfl))
    all_goals (apply d_store 13; (case hi => rfl); (case hr => kernel_rfl); (case hL => infer_instance); (case hp => rfl); (case hx => rfl); (case hc => rfl); (case hsz => rfl); (case h1 => rfl); (case hb => (repeat (first | exact mhd _ | apply mtl | apply List.mem_append_right))); (case hfit => exact nle rfl); (case hov => ((repeat (first | with_reducible exact ov_nil | apply ov_cons)); done)); (case hu => repeat (first | exact Upd.here _ _ | apply Upd.there | apply Upd.app)); (case hν' => intro e he; (simp at he; simp [he]; done)))
    all_goals (apply d_done; (case hr => kernel_rfl))
    repeat' (fail)
    refine v_frz ν5 (by repeat (exact PickA.here _)) ?_
    intro G4 hle4 hG4
    have hc4 := esle (esle hc hle2) hle4
    have hi4 := hi2.mono hle4
    have ha4 := es_of_grow hg5 hG4 (fun y hy => by
      have := (g.acc y (List.mem_of_mem_drop hy))
      exact this.2.1)
    have qc := from_s (x.index + 1) hc4 g.rcho (by omega)
    refine d_start [(xb, .cells (recL x.kind x.round x.node x.index x.cmd (.slice A3 x.image.length c3)).toArray 42 (0, 0))] (by kernel_rfl) (by kernel_rfl) (by kernel_rfl) (by intro e he; (simp at he; simp [he]; done)) ?_
    all_goals (apply dtk 0; (case hi => rfl); (case hop => (apply prd; apply p_move <;> rfl)); (case hq => kernel_rfl))
    all_goals (apply dtk 1; (case hi => rfl); (case hop => (apply prd; apply p_move <;> rfl)); (case hq => kernel_rfl))
    all_goals (apply dtk 2; (case hi => rfl); (case hop => (apply prd; apply p_nilCheck <;> rfl)); (case hq => kernel_rfl))
    all_goals (apply dtk 3; (case hi => rfl); (case hop => (apply prd; apply p_fieldAddrB <;> rfl)); (case hq => kernel_rfl))
    all_goals (apply dtk 4; (case hi => rfl); (case hop => (apply prd; apply p_fieldAddrB <;> rfl)); (case hq => kernel_rfl))
    all_goals (apply dtk 6; (case hi => rfl); (case hop => (apply prd; apply p_fieldAddrB <;> rfl)); (case hq => kernel_rfl))
    all_goals (apply dtk 7; (case hi => rfl); (case hop => first | (apply r_loadNo; (case hx => rfl); (case h => (repeat (fail))); (case hd => (repeat (fail))); (case hn => rfl)) | (apply r_load1; rfl; (apply Cell.own; (case h => (repeat (exact mhd _))); rfl)) | (apply r_loadN; rfl; (apply CellsAt.own; (case h => (repeat (fail)))); rfl)); (case hq => kernel_rfl))
    all_goals (apply dtk 8; (case hi => rfl); (case hop => (apply prd; apply p_add; (case hx => rfl); (case hy => rfl); (case h => omega))); (case hq => kernel_rfl))
    all_goals (apply d_keep 5 (hop := ReadOp.move ?hop); (case hi => rfl); (case hr => kernel_rfl); (case hop => (apply r_load1; rfl; (apply Cell.own; (case h => repeat (first | exact mhd _ | apply mtl)); rfl))); (case hd => rfl))
    all_goals ((apply d_call 9 (hs := qc); (case hi => rfl); (case hr => kernel_rfl);  (case ha => rfl); (case hp => exact List.Perm.refl _); (case hd => rfl); (case hν' => intro e he; simp at he; simp [he]); rintro r1 G1 ν6 - ⟨rfl, hg6⟩; obtain ⟨A6, c6, rfl, -, -⟩ := hg6.shape))
    all_goals (apply dtk 10; (case hi => rfl); (case hop => (apply prd; apply p_nilCheck <;> rfl)); (case hq => kernel_rfl))
    all_goals (apply dtk 11; (case hi => rfl); (case hop => (apply prd; apply p_fieldAddrB <;> rfl)); (case hq => kernel_rfl))
    all_goals (apply dtk 12; (case hi => rfl); (case hop => (apply prd; apply p_fieldAddrB <;> rfl)); (case hq => kernel_rfl))
    all_goals (apply d_store 13; (case hi => rfl); (case hr => kernel_rfl); (case hL => infer_instance); (case hp => rfl); (case hx => rfl); (case hc => rfl); (case hsz => rfl); (case h1 => rfl); (case hb => (repeat (first | exact mhd _ | apply mtl | apply List.mem_append_right))); (case hfit => exact nle rfl); (case hov => ((repeat (first | with_reducible exact ov_nil | apply ov_cons)); done)); (case hu => repeat (first | exact Upd.here _ _ | apply Upd.there | apply Upd.app)); (case hν' => intro e he; (simp at he; simp [he]; done)))
    all_goals (apply d_done; (case hr => kernel_rfl))
    repeat' (fail)
    refine v_frz ν6 (by repeat (exact PickA.here _)) ?_
    intro G6 hle6 hG6
    have hc6 := es_of_grow hg6 hG6 (fun y hy => by
      have := (g.cho y (List.mem_of_mem_drop hy))
      exact this.2.1)
    refine v_end [(hb, _)] (outsA0 rfl) (by repeat (first | exact List.Sublist.refl _ | apply List.Sublist.cons)) ?_
    exact ⟨_, rfl, _, _, _, rfl, hi4.mono hle6, esle ha4 hle6, hc6⟩
theorem chg_eq (h : Hd) (x : Rc) : chg h x = if x.kind = 1 then h.prom x else if x.kind = 2 then accH h x else if x.kind = 3 then choH h x else takeH h x := rfl
theorem entOf_ok {x : Rc} (hx : chkI x = 0) (hc : x.cmd.ok) : (entOf x).ok ∧ (⟨x.index, 0, 0, x.cmd⟩ : Ent).ok ∧ 0 ≤ x.index ∧ x.index ≤ 4294967296 ∧ x.image.length ≤ 32768 := by
  have h0 : recI x.kind x.round x.node x.index x.cmd x.image.length = 0 := hx
  obtain ⟨hk, hr, hi, hcc, ho⟩ := rec0 h0
  obtain ⟨hfit, hsm, him, hsz⟩ := fits0 h0
  unfold ranP mayP at hr
  have hr0 : 0 ≤ x.round ∧ x.round ≤ 4294967296 := by unfold othP at ho; omega
  have hn0 : 0 ≤ x.node ∧ x.node ≤ 9 := by unfold othP at ho; omega
  have hi0 : 0 ≤ x.index ∧ x.index ≤ 4294967296 := by unfold othP at ho; omega
  exact ⟨⟨wf64 (n := x.index) (by omega), wf64 (n := x.round) (by omega), wf64 (n := x.node) (by omega), hc⟩, ⟨wf64 (n := x.index) (by omega), wf64 (n := 0) (by omega), wf64 (n := 0) (by omega), hc⟩, hi0.1, hi0.2, him⟩
theorem change_s {G : GH} {H : Hd} {L : List Value} {x : Rc} {xv : Value} {n : Nat} (hb : Nat) (hh : HdV G H L) (g : Good n H) (hn : n ≤ 200) (hx : RcV G x xv) (hv : chkI x = 0) (hc : x.cmd.ok) :
    Con Tryz.prog 108 #[.pointer (some ⟨hb, 0, none⟩), xv] G [(hb, hdO L)] (fun _ G' μ' => ∃ L', μ' = [(hb, hdO L')] ∧ HdV G' (chg H x) L') := by
  obtain ⟨e1, e2, e3, e4, e5⟩ := entOf_ok hv hc
  have hk := (rec0 (show recI x.kind x.round x.node x.index x.cmd x.image.length = 0 from hv)).1
  have q2 := accept_s hb hh g hn hx (withL_ok (fun e he => (g.acc e he).2.1) e1)
  have q3 := choose_s hb hh g hn hx (withL_ok (fun e he => (g.cho e he).2.1) e2)
  have q4 := take_s hb hh g hn hx (by omega) ⟨e3, e4⟩
  have hh' := hh
  obtain ⟨im, av, cv, rfl, hi, ha, hcv⟩ := hh
  have q1 := promise_s G hb H.pr H.pn H.base x.round x.node im av cv
  obtain ⟨iv, rfl, hxv⟩ := hx
  rw [chg_eq]
  (refine v_enter Tryz.func108 rfl Tryz.ntmps108 rfl ?_; intro B _)
  obtain k | k | k | k : x.kind = 1 ∨ x.kind = 2 ∨ x.kind = 3 ∨ x.kind = 4 := by omega
  · rw [if_pos k, prom_max]
    repeat' (first | apply v_seq | apply v_region | apply v_nil | apply v_block | (apply v_pure; (case hop => first | (apply p_move <;> rfl) | (apply p_eq <;> rfl) | (apply p_assign <;> rfl) | (apply p_fieldAddrB <;> rfl) | fail); (case hd => rfl)) | (apply v_cond; (case hc => rfl); all_goals (intro h; (try simp only [reduceCtorEq, zzz] at h); first | (exfalso; omega) | skip)) | (apply v_box (zs := recL x.kind x.round x.node x.index x.cmd iv); (case hx => rfl); (case hz => rfl); (case hd => rfl); intro xb) | (apply v_read; (case hop => first | (apply r_loadNo; (case hx => rfl); (case h => (repeat (exact mhd _))); (case hd => (repeat (first | with_reducible exact dt_nil | apply dt_here))); (case hn => rfl)) | (apply r_load1; rfl; (apply Cell.own; (case h => (repeat (exact mhd _))); rfl)) | fail); (case hd => rfl)) | fail)
    refine v_call (μ1 := [(hb, _)]) (μ2 := _) rfl q1 (PickA.perm (by repeat (first | exact PickA.last | apply PickA.cons))) rfl ?_
    rintro _ _ _ - ⟨rfl, rfl⟩
    repeat' (first | apply v_nil | apply v_blk)
    refine v_end [(hb, _)] (outsA0 rfl) (by repeat (first | exact List.nil_sublist _ | apply List.Sublist.cons_cons)) ?_
    exact ⟨_, rfl, _, _, _, rfl, hi, ha, hcv⟩
  · rw [if_neg (by omega), if_pos k]
    repeat' (first | apply v_seq | apply v_region | apply v_nil | apply v_block | (apply v_pure; (case hop => first | (apply p_move <;> rfl) | (apply p_eq <;> rfl) | (apply p_assign <;> rfl) | (apply p_fieldAddrB <;> rfl) | fail); (case hd => rfl)) | (apply v_cond; (case hc => rfl); all_goals (intro h; (try simp only [reduceCtorEq, zzz] at h); first | (exfalso; omega) | skip)) | (apply v_box (zs := recL x.kind x.round x.node x.index x.cmd iv); (case hx => rfl); (case hz => rfl); (case hd => rfl); intro xb) | (apply v_read; (case hop => first | (apply r_loadNo; (case hx => rfl); (case h => (repeat (exact mhd _))); (case hd => (repeat (first | with_reducible exact dt_nil | apply dt_here))); (case hn => rfl)) | (apply r_load1; rfl; (apply Cell.own; (case h => (repeat (exact mhd _))); rfl)) | fail); (case hd => rfl)) | fail)
    refine v_call (μ1 := [(hb, _)]) (μ2 := _) rfl q2 (PickA.perm (by repeat (first | exact PickA.last | apply PickA.cons))) rfl ?_
    rintro _ G1 _ - ⟨L', rfl, h'⟩
    repeat' (first | apply v_nil | apply v_blk)
    refine v_end [(hb, _)] (outsA0 rfl) (by repeat (first | exact List.nil_sublist _ | apply List.Sublist.cons_cons)) ?_
    exact ⟨_, rfl, h'⟩
  · rw [if_neg (by omega), if_neg (by omega), if_pos k]
    repeat' (first | apply v_seq | apply v_region | apply v_nil | apply v_block | (apply v_pure; (case hop => first | (apply p_move <;> rfl) | (apply p_eq <;> rfl) | (apply p_assign <;> rfl) | (apply p_fieldAddrB <;> rfl) | fail); (case hd => rfl)) | (apply v_cond; (case hc => rfl); all_goals (intro h; (try simp only [reduceCtorEq, zzz] at h); first | (exfalso; omega) | skip)) | (apply v_box (zs := recL x.kind x.round x.node x.index x.cmd iv); (case hx => rfl); (case hz => rfl); (case hd => rfl); intro xb) | (apply v_read; (case hop => first | (apply r_loadNo; (case hx => rfl); (case h => (repeat (exact mhd _))); (case hd => (repeat (first | with_reducible exact dt_nil | apply dt_here))); (case hn => rfl)) | (apply r_load1; rfl; (apply Cell.own; (case h => (repeat (exact mhd _))); rfl)) | fail); (case hd => rfl)) | fail)
    refine v_call (μ1 := [(hb, _)]) (μ2 := _) rfl q3 (PickA.perm (by repeat (first | exact PickA.last | apply PickA.cons))) rfl ?_
    rintro _ G1 _ - ⟨L', rfl, h'⟩
    repeat' (first | apply v_nil | apply v_blk)
    refine v_end [(hb, _)] (outsA0 rfl) (by repeat (first | exact List.nil_sublist _ | apply List.Sublist.cons_cons)) ?_
    exact ⟨_, rfl, h'⟩
  · rw [if_neg (by omega), if_neg (by omega), if_neg (by omega)]
    repeat' (first | apply v_seq | apply v_region | apply v_nil | apply v_block | (apply v_pure; (case hop => first | (apply p_move <;> rfl) | (apply p_eq <;> rfl) | (apply p_assign <;> rfl) | (apply p_fieldAddrB <;> rfl) | fail); (case hd => rfl)) | (apply v_cond; (case hc => rfl); all_goals (intro h; (try simp only [reduceCtorEq, zzz] at h); first | (exfalso; omega) | skip)) | (apply v_box (zs := recL x.kind x.round x.node x.index x.cmd iv); (case hx => rfl); (case hz => rfl); (case hd => rfl); intro xb) | (apply v_read; (case hop => first | (apply r_loadNo; (case hx => rfl); (case h => (repeat (exact mhd _))); (case hd => (repeat (first | with_reducible exact dt_nil | apply dt_here))); (case hn => rfl)) | (apply r_load1; rfl; (apply Cell.own; (case h => (repeat (exact mhd _))); rfl)) | fail); (case hd => rfl)) | fail)
    refine v_call (μ1 := [(hb, _)]) (μ2 := _) rfl q4 (PickA.perm (by repeat (first | exact PickA.last | apply PickA.cons))) rfl ?_
    rintro _ G1 _ - ⟨L', rfl, h'⟩
    repeat' (first | apply v_nil | apply v_blk)
    refine v_end [(hb, _)] (outsA0 rfl) (by repeat (first | exact List.nil_sublist _ | apply List.Sublist.cons_cons)) ?_
    exact ⟨_, rfl, h'⟩
def RcR (G : GH) (x : Rc) (cs : List Value) : Prop := ∃ iv, cs = recL x.kind x.round x.node x.index x.cmd iv ∧ x.cmd.ok ∧ x.small ∧ Sl G 1 (IntR .u8) iv x.image
theorem RcR.le {G G' : GH} (h : GH.le G G') {x : Rc} {cs : List Value} (hc : RcR G x cs) : RcR G' x cs := let ⟨iv, h1, h2, h3, h4⟩ := hc; ⟨iv, h1, h2, h3, h4.mono h⟩
abbrev Rs (G : GH) (v : Value) (l : List Rc) : Prop := Sl G 12 (RcR G) v l
theorem rsOpen {G : GH} {v : Value} {l : List Rc} (h : Rs G v l) : ∃ A c, ∃ (iv : Nat → Value), v = .slice A l.length c ∧ l.length ≤ c ∧ c ≤ maxLen ∧ (0 < l.length → A.isSome = true) ∧
    (∀ i (h : i < l.length), CellsG G ((adr A).add (i * 12)) (recL l[i].kind l[i].round l[i].node l[i].index l[i].cmd (iv i))) ∧ (∀ i (h : i < l.length), Sl G 1 (IntR .u8) (iv i) l[i].image) ∧ (∀ x ∈ l, x.cmd.ok ∧ x.small) := by
  obtain ⟨A, c, rfl, h1, h2, h3, h4⟩ := h.open
  have key : ∀ i, ∃ m : Value, ∀ (h : i < l.length), CellsG G ((adr A).add (i * 12)) (recL l[i].kind l[i].round l[i].node l[i].index l[i].cmd m) ∧ Sl G 1 (IntR .u8) m l[i].image ∧ (l[i].cmd.ok ∧ l[i].small) := fun i => by
    by_cases hi : i < l.length
    · obtain ⟨cs, _, ⟨iv, rfl, h6, h7, h8⟩, h5⟩ := h4 i _ (List.getElem?_eq_getElem hi)
      exact ⟨iv, fun _ => ⟨h5, h8, h6, h7⟩⟩
    · exact ⟨.slice none 0 0, fun h => absurd h hi⟩
  have hk := fun i => Classical.choose_spec (key i)
  refine ⟨A, c, fun i => Classical.choose (key i), rfl, h1, h2, h3, fun i hi => (hk i hi).1, fun i hi => (hk i hi).2.1, fun x hx => ?_⟩
  obtain ⟨i, hi, rfl⟩ := List.getElem_of_mem hx
  exact (hk i hi).2.2
theorem good_step {n : Nat} {h : Hd} (g : Good n h) {x : Rc} (hc : x.cmd.ok) : Good (n + 1) (stepH h x) := by
  unfold stepH
  by_cases hx : chkI x = 0
  · rw [if_pos hx]; exact good_chg g hx hc
  · rw [if_neg hx]; exact g.more (by omega)
theorem foldl_take {l : List Rc} {k : Nat} (h : k < l.length) : (l.take (k + 1)).foldl stepH Hd.zero = stepH ((l.take k).foldl stepH Hd.zero) l[k] := by
  rw [List.take_add_one, List.getElem?_eq_getElem h, List.foldl_append]
  rfl
theorem hd_zero (G : GH) : HdV G Hd.zero (hdL 0 0 0 (.slice none 0 0) (.slice none 0 0) (.slice none 0 0)) := ⟨_, _, _, rfl, Sl.nil, Sl.nil, Sl.nil⟩
theorem of_s {G : GH} (hT : TabsG G) {l : List Rc} {lv : Value} (hs : Rs G lv l) (hn : l.length ≤ 200) : Con Tryz.prog 64 #[lv] G [] (fun r G' μ' => μ' = [] ∧ ∃ L, r = .agg L.toArray ∧ HdV G' (hardOf l) L) := by
  obtain ⟨A, c, ivf, rfl, hlc, hcm, hsome, hcp, him, hok⟩ := rsOpen hs
  simp only [maxLen] at hcm
  (refine v_enter Tryz.func64 rfl Tryz.ntmps64 rfl ?_; intro B _)
  repeat' (first | apply v_seq | apply v_region | apply v_nil | apply v_block | (apply v_pure; (case hop => first | (apply p_move <;> rfl) | (apply p_assign <;> rfl) | (apply p_lenSlice <;> rfl) | (apply p_build; (case hz => rfl); (case hv => (simp only [List.map_cons, List.map_nil]; repeat (with_reducible exact evs_nil))); (case hb => (apply bldL; repeat (exact bld_nil)))) | fail); (case hd => rfl)) | (apply v_alloc; (case hz => rfl); (case hd => rfl); intro b) | (apply v_box; (case hx => rfl); (case hz => rfl); (case hd => rfl); intro b) | fail)
  rename_i ob
  rename Nat => hb
  refine v_loop [10, 9, 8, 3, 2] (fun us G' μ' => GH.le G G' ∧ ∃ (k : Nat) (L : List Value), k ≤ l.length ∧ us = [Value.int .i64 (k : Nat), .int .i64 (l.length : Nat), .slice A l.length c, .pointer (some ⟨hb, 0, none⟩), .pointer (some ⟨ob, 0, none⟩)] ∧ μ' = [(hb, hdO L), (ob, .cells (hdL 0 0 0 (.slice none 0 0) (.slice none 0 0) (.slice none 0 0)).toArray 27 (0, 0))] ∧ HdV G' ((l.take k).foldl stepH Hd.zero) L ∧ Good k ((l.take k).foldl stepH Hd.zero)) (fun us => l.length - (headI us).toNat) rfl ⟨GH.le_refl _, 0, _, by omega, rfl, rfl, hd_zero G, good_zero⟩ ?_
  rintro us G2 μ' ⟨hle, k, L, hk, rfl, rfl, hh, hg⟩
  by_cases hlt : k < l.length
  · have e1 : ((k : Nat) : Int).toNat = k := by omega
    have hcx := (hcp k hlt).le hle
    have hix := (him k hlt).mono hle
    have hcok := hok _ (List.getElem_mem hlt)
    have hft := foldl_take hlt
    have hgs := good_step hg hcok.1
    rw [← hft] at hgs
    generalize hxe : l[k] = x at *
    generalize ivf k = iv at *
    obtain ⟨Ai, ci, rfl, hic, him2, -⟩ := id hix.openInt
    simp only [maxLen] at him2
    have hx : RcV G2 x (.agg (recL x.kind x.round x.node x.index x.cmd (.slice Ai x.image.length ci)).toArray) := ⟨_, rfl, hix⟩
    have qc := recCheck_s (hT.le hle) x.kind x.round x.node x.index x.cmd hcok.1 Ai x.image.length ci (by omega)
    by_cases hv : chkI x = 0
    · have q := change_s hb hh hg (by omega) hx hv hcok.1
      have es : stepH ((l.take k).foldl stepH Hd.zero) x = chg ((l.take k).foldl stepH Hd.zero) x := by unfold stepH; rw [if_pos hv]
      rw [es] at hft
      rw [show recI x.kind x.round x.node x.index x.cmd x.image.length = 0 from hv] at qc
      repeat' (first | apply v_seq | apply v_region | apply v_nil | apply v_skip | apply v_block | (apply v_pure; (case hop => first | (apply p_move <;> rfl) | (apply p_eqs <;> rfl) | (apply p_lt <;> rfl) | (apply p_indexAddrS; (case hx => rfl); (case hi => rfl); (case h0 => omega); (case h => omega); (case hA => (apply_assumption; omega))) | fail); (case hd => rfl)) | (apply v_condT; (case hc => rfl)) | (apply v_cond; (case hc => rfl); all_goals (intro h; (try simp only [reduceCtorEq, zzz] at h); first | (exfalso; omega) | skip)) | (apply v_read; (case hop => (apply r_loadN; rfl; exact CellsAt.frozen hcx; rfl)); (case hd => rfl)) | (apply v_callJ (hs := qc); (case ha => rfl); (case hd => rfl)) | (apply v_read; (case hop => (apply r_loadNo; (case hx => rfl); (case h => (repeat (exact mhd _))); (case hd => (repeat (first | with_reducible exact dt_nil | apply dt_here))); (case hn => rfl))); (case hd => rfl)) | (apply v_alloc; (case hz => rfl); (case hd => rfl); intro b) | (apply v_store; (case hp => rfl); (case hx => rfl); (case hc => rfl); (case hsz => rfl); (case h1 => rfl); (case hb => (repeat (exact mhd _))); (case hfit => exact nle rfl); (case hov => ((repeat (first | with_reducible exact ov_nil | apply ov_cons)); done)); (case hu => repeat (exact Upd.here _ _))) | fail)
      refine v_call (μ1 := [(hb, _)]) (μ2 := _) rfl q (PickA.perm (by repeat (first | exact PickA.here _ | apply PickA.cons))) rfl ?_
      rintro _ G3 _ hle3 ⟨L', rfl, h'⟩
      rw [← hft] at h'
      repeat' (first | apply v_region | apply v_nil | apply v_blk | (apply v_pure; (case hop => first | (apply p_move <;> rfl) | (apply p_add; (case hx => rfl); (case hy => rfl); (case h => omega)) | fail); (case hd => rfl)) | fail)
      refine v_drop (ν := [(hb, _), (ob, _)]) (by repeat (first | exact List.Sublist.refl _ | apply List.Sublist.cons_cons | apply List.Sublist.cons)) ?_
      refine v_again rfl ⟨GH.le_trans hle hle3, k + 1, L', by omega, rfl, rfl, h', hgs⟩ (by simp [headI]; omega)
    · have es : stepH ((l.take k).foldl stepH Hd.zero) x = (l.take k).foldl stepH Hd.zero := by unfold stepH; rw [if_neg hv]
      rw [es] at hft
      have hv' : ¬ recI x.kind x.round x.node x.index x.cmd x.image.length = 0 := hv
      generalize recI x.kind x.round x.node x.index x.cmd x.image.length = I at *
      repeat' (first | apply v_seq | apply v_region | apply v_nil | apply v_skip | apply v_block | apply v_blk | (apply v_pure; (case hop => first | (apply p_move <;> rfl) | (apply p_eq <;> rfl) | (apply p_lt <;> rfl) | (apply p_add; (case hx => rfl); (case hy => rfl); (case h => omega)) | (apply p_indexAddrS; (case hx => rfl); (case hi => rfl); (case h0 => omega); (case h => omega); (case hA => (apply_assumption; omega))) | fail); (case hd => rfl)) | (apply v_cond; (case hc => rfl); all_goals (intro h; (try simp only [reduceCtorEq, zzz] at h); first | (exfalso; omega) | skip)) | (apply v_read; (case hop => (apply r_loadN; rfl; exact CellsAt.frozen hcx; rfl)); (case hd => rfl)) | (apply v_callJ (hs := qc); (case ha => rfl); (case hd => rfl)) | (apply v_read; (case hop => (apply r_loadNo; (case hx => rfl); (case h => (repeat (exact mhd _))); (case hd => (repeat (first | with_reducible exact dt_nil | apply dt_here))); (case hn => rfl))); (case hd => rfl)) | (apply v_alloc; (case hz => rfl); (case hd => rfl); intro b) | (apply v_store; (case hp => rfl); (case hx => rfl); (case hc => rfl); (case hsz => rfl); (case h1 => rfl); (case hb => (repeat (exact mhd _))); (case hfit => exact nle rfl); (case hov => ((repeat (first | with_reducible exact ov_nil | apply ov_cons)); done)); (case hu => repeat (exact Upd.here _ _))) | fail)
      refine v_drop (ν := [(hb, _), (ob, _)]) (by repeat (first | exact List.Sublist.refl _ | apply List.Sublist.cons)) ?_
      refine v_again rfl ⟨hle, k + 1, L, by omega, rfl, rfl, by rw [hft]; exact hh, hgs⟩ (by simp [headI]; omega)
  · obtain rfl : k = l.length := by omega
    rw [List.take_length] at hh
    obtain ⟨im, av, cv, rfl, hi, ha, hc⟩ := hh
    obtain ⟨A0, c0, rfl, -⟩ := id hi.openInt
    obtain ⟨A1, c1, rfl, -⟩ := id ha.open
    obtain ⟨A2, c2, rfl, -⟩ := id hc.open
    repeat' (first | apply v_seq | apply v_region | apply v_nil | (apply v_exit; (case hp => rfl)) | (apply v_pure; (case hop => first | (apply p_move <;> rfl) | (apply p_lt <;> rfl) | (apply p_fieldAddrB <;> rfl) | (apply p_nilCheck <;> rfl) | fail); (case hd => rfl)) | (apply v_cond; (case hc => rfl); all_goals (intro h; (try simp only [reduceCtorEq, zzz] at h); first | (exfalso; omega) | skip)) | (apply v_read; (case hop => (apply r_loadNo; (case hx => rfl); (case h => (repeat (exact mhd _))); (case hd => (repeat (first | with_reducible exact dt_nil | apply dt_here))); (case hn => rfl))); (case hd => rfl)) | (apply v_store; (case hp => rfl); (case hx => rfl); (case hc => rfl); (case hsz => rfl); (case h1 => rfl); (case hb => (repeat (first | exact mhd _ | apply mtl))); (case hfit => exact nle rfl); (case hov => ((repeat (first | with_reducible exact ov_nil | apply ov_cons)); done)); (case hu => repeat (first | exact Upd.here _ _ | apply Upd.there))) | fail)
    refine v_retM [] (outsM_cell (vs := hdL (l.foldl stepH Hd.zero).pr (l.foldl stepH Hd.zero).pn (l.foldl stepH Hd.zero).base (.slice A0 (l.foldl stepH Hd.zero).image.length c0) (.slice A1 (l.foldl stepH Hd.zero).acc.length c1) (.slice A2 (l.foldl stepH Hd.zero).cho.length c2)) (e := 27) rfl rfl (by repeat (first | exact mhd _ | apply mtl)) rfl) (by repeat (exact List.nil_sublist _)) ?_
    exact ⟨rfl, _, rfl, _, _, _, rfl, hi, ha, hc⟩
abbrev hardO (L : List Value) : Obj := .cells L.toArray 27 (0, 0)
structure Two (k : Nat) (acc cho : List Ent) : Prop where
  ra : RiseL acc
  rc : RiseL cho
  na : acc.length ≤ k
  nc : cho.length ≤ k
  oa : ∀ e ∈ acc, e.ok
  oc : ∀ e ∈ cho, e.ok
theorem hSame_s {G : GH} {H : Hd} {L L' : List Value} (h1 : HdV G H L) (h2 : HdV G H L') : Con Tryz.prog 22 #[.agg L.toArray, .agg L'.toArray] G [] (Just (.bool true) G) := by
  obtain ⟨iv, av, cv, rfl, hi, ha, hc⟩ := h1
  obtain ⟨iv', av', cv', rfl, hi', ha', hc'⟩ := h2
  have q1 := bSame_s hi hi'
  have q2 := entSame_s ha ha'
  have q3 := entSame_s hc hc'
  rw [decide_eq_true rfl] at q1 q2 q3
  obtain ⟨A0, c0, rfl, -⟩ := hi.openInt
  obtain ⟨A1, c1, rfl, -⟩ := ha.open
  obtain ⟨A2, c2, rfl, -⟩ := hc.open
  obtain ⟨B0, d0, rfl, -⟩ := hi'.openInt
  obtain ⟨B1, d1, rfl, -⟩ := ha'.open
  obtain ⟨B2, d2, rfl, -⟩ := hc'.open
  apply Con.just
  (refine v_enter Tryz.func22 rfl Tryz.ntmps22 rfl ?_; intro B _)
  repeat' (first | (apply v_pure; (case hop => (apply eqBal; (case hx => rfl); (case hy => rfl))); (case hd => rfl)) | apply v_seq | apply v_region | apply v_nil | (apply v_take; (case hg => rfl)) | (apply v_pass; (case hg => rfl); (case hn => rfl); (case hd => rfl)) | (apply v_pure; (case hop => first | (apply p_move <;> rfl) | (apply p_eqs <;> rfl) | (apply p_assign <;> rfl) | (apply p_pickT <;> rfl) | (apply p_pickF <;> rfl) | (apply p_fieldAddrB <;> rfl) | fail); (case hd => rfl)) | (apply v_guardB; (case h1 => rfl); (case h2 => rfl); all_goals (intro h; (try simp only [reduceCtorEq, zzz] at h))) | (apply v_callJ (hs := q1); (case ha => rfl); (case hd => rfl)) | (apply v_callJ (hs := q2); (case ha => rfl); (case hd => rfl)) | (apply v_callJ (hs := q3); (case ha => rfl); (case hd => rfl)) | (apply v_read; (case hop => first | (apply r_loadNo; (case hx => rfl); (case h => (repeat (first | exact mhd _ | apply mtl))); (case hd => (repeat (first | with_reducible exact dt_nil | apply dt_here))); (case hn => rfl)) | (apply r_load1; rfl; (apply Cell.own; (case h => (repeat (first | exact mhd _ | apply mtl))); rfl)) | fail); (case hd => rfl)) | (apply v_box; (case hx => rfl); (case hz => rfl); (case hd => rfl); intro b) | fail)
  · refine v_ret [] (outsA1 rfl rfl) (by repeat (exact List.nil_sublist _)) ?_
    exact ⟨rfl, rfl⟩
  · exact absurd ⟨trivial, trivial⟩ ‹¬ (True ∧ True)›
theorem neBoolF {σ : Env} {ty t t' : TypeId} {a b : Operand} {x y : Bool} [Ty Tryz.prog t .bool] (h : x = y) (hx : Env.ev σ a = some (.bool x)) (hy : Env.ev σ b = some (.bool y)) : PureOp Tryz.prog (.binOp .neq t a b t') ty σ (.bool false) := by
  subst h
  exact p_neBs hx hy
theorem hCheck_s {G : GH} {H : Hd} {L : List Value} {n : Nat} (hh : HdV G H L) (g : Good n H) : Con Tryz.prog 14 #[.agg L.toArray] G [] (Just (.bool true) G) := by
  obtain ⟨iv, av, cv, rfl, hi, ha, hc⟩ := hh
  have qa := refEntCheck_s ha
  have qc := refEntCheck_s hc
  rw [chk_of (fun x hx => (g.acc x hx).1) g.racc _ 0 rfl] at qa
  rw [chk_of (fun x hx => (g.cho x hx).1) g.rcho _ 0 rfl] at qc
  have qm := refMay_s G H.pr H.pn
  rw [decide_eq_true g.may] at qm
  obtain ⟨A0, c0, rfl, hl0, hm0, -⟩ := hi.openInt
  obtain ⟨A1, c1, rfl, hl1, hm1, hs1, hcp1, hcb1, -, -⟩ := esOpen ha
  obtain ⟨A2, c2, rfl, hl2, hm2, hs2, hcp2, hcb2, -, -⟩ := esOpen hc
  simp only [maxLen] at hm0 hm1 hm2
  have hb := g.base
  have him := g.img
  have hbi : dec (0 < H.base) = dec (0 < (H.image.length : Int)) := by
    rw [dec_eq, dec_eq]
    congr 1
    rw [eq_iff_iff]
    omega
  apply Con.just
  (refine v_enter Tryz.func14 rfl Tryz.ntmps14 rfl ?_; intro B _)
  repeat' (first | (apply v_pure; (case hop => (apply neBoolF (h := hbi); (case hx => rfl); (case hy => rfl))); (case hd => rfl)) | apply v_seq | apply v_region | apply v_nil | apply v_skip | apply v_block | (apply v_take; (case hg => rfl)) | (apply v_pure; (case hop => first | (apply p_move <;> rfl) | (apply p_nes <;> rfl) | (apply p_lt <;> rfl) | (apply p_gt <;> rfl) | (apply p_assign <;> rfl) | (apply p_pickF <;> rfl) | (apply p_not <;> rfl) | (apply p_lenSlice <;> rfl) | (apply p_fieldAddrB <;> rfl) | fail); (case hd => rfl)) | (apply v_condF; (case hc => rfl)) | (apply v_guardB; (case h1 => rfl); (case h2 => rfl); all_goals (intro h; (try simp only [reduceCtorEq, zzz] at h); first | (exfalso; omega) | skip)) | (apply v_callJ (hs := qm); (case ha => rfl); (case hd => rfl)) | (apply v_callJ (hs := qa); (case ha => rfl); (case hd => rfl)) | (apply v_callJ (hs := qc); (case ha => rfl); (case hd => rfl)) | (apply v_read; (case hop => first | (apply r_loadNo; (case hx => rfl); (case h => (repeat (exact mhd _))); (case hd => (repeat (first | with_reducible exact dt_nil | apply dt_here))); (case hn => rfl)) | (apply r_load1; rfl; (apply Cell.own; (case h => (repeat (exact mhd _))); rfl)) | fail); (case hd => rfl)) | (apply v_box; (case hx => rfl); (case hz => rfl); (case hd => rfl); intro b) | fail)
  rename Nat => hb'
  refine v_loop [3, 1] (fun us G' μ' => G' = G ∧ μ' = [(hb', hardO (hdL H.pr H.pn H.base (.slice A0 H.image.length c0) (.slice A1 H.acc.length c1) (.slice A2 H.cho.length c2)))] ∧ ∃ k, k ≤ H.acc.length ∧ us = [Value.int .i64 (k : Nat), .pointer (some ⟨hb', 0, none⟩)]) (fun us => H.acc.length - (headI us).toNat) rfl ⟨rfl, rfl, 0, by omega, rfl⟩ ?_
  rintro us G' μ' ⟨rfl, rfl, k, hk, rfl⟩
  by_cases hlt : k < H.acc.length
  · have e1 : ((k : Nat) : Int).toNat = k := by omega
    have hg := g.acc _ (List.getElem_mem hlt)
    have kc0 : GH.cell? G' (((adr A1).add (k * 10)).add 0) = some (.int .i64 (H.acc[k]).index) := (hcp1 k hlt).cell (j := 0) rfl
    have kc1 := hcb1 k hlt
    generalize hxe : H.acc[k] = e at *
    obtain ⟨-, -, hg1, hg2, hg3⟩ := hg
    have ql := refLess_s G' H.pr H.pn e.round e.node
    rw [decide_eq_false hg3] at ql
    have hA := hs1 (by omega)
    repeat' (first | apply v_seq | apply v_region | apply v_nil | apply v_skip | apply v_block | (apply v_pure; (case hop => first | (apply p_move <;> rfl) | (apply p_lt <;> rfl) | (apply p_lenSlice <;> rfl) | (apply p_fieldAddrB <;> rfl) | (apply p_fieldAddr <;> rfl) | (apply p_indexAddrS; (case hx => rfl); (case hi => rfl); (case h0 => omega); (case h => omega); (case hA => assumption)) | fail); (case hd => rfl)) | (apply v_cond; (case hc => rfl); all_goals (intro h; (try simp only [reduceCtorEq, zzz] at h); first | (exfalso; omega) | skip)) | (apply v_read; (case hop => (apply r_loadN; rfl; exact CellsAt.frozen kc1; rfl)); (case hd => rfl)) | (apply v_read; (case hop => (apply r_load1; rfl; (apply Cell.own; (case h => (repeat (exact mhd _))); rfl))); (case hd => rfl)) | (apply v_alloc; (case hz => rfl); (case hd => rfl); intro b) | (apply v_store; (case hp => rfl); (case hx => rfl); (case hc => rfl); (case hsz => rfl); (case h1 => rfl); (case hb => (repeat (exact mhd _))); (case hfit => exact nle rfl); (case hov => ((repeat (first | with_reducible exact ov_nil | apply ov_cons)); done)); (case hu => repeat (exact Upd.here _ _))) | fail)
    refine d_start _ (by kernel_rfl) (by kernel_rfl) (by kernel_rfl) (fun _ he => he) ?_
    all_goals (apply dtk 0; (case hi => rfl); (case hop => (apply prd; apply p_fieldAddrB <;> rfl)); (case hq => kernel_rfl))
    all_goals (apply dtk 1; (case hi => rfl); (case hop => (apply r_load1; rfl; (apply Cell.own; (case h => (repeat (first | exact mhd _ | apply mtl))); rfl))); (case hq => kernel_rfl))
    all_goals (apply dtk 2; (case hi => rfl); (case hop => (apply prd; apply p_move <;> rfl)); (case hq => kernel_rfl))
    all_goals (apply dtk 3; (case hi => rfl); (case hop => (apply prd; apply p_indexAddrS; (case hx => rfl); (case hi => rfl); (case h0 => omega); (case h => omega); (case hA => assumption))); (case hq => kernel_rfl))
    all_goals (apply dtk 4; (case hi => rfl); (case hop => (apply prd; apply p_fieldAddr <;> rfl)); (case hq => kernel_rfl))
    all_goals (apply dtk 5; (case hi => rfl); (case hop => ((apply r_load1; rfl; exact Cell.frozen kc0))); (case hq => kernel_rfl))
    all_goals (apply dtk 6; (case hi => rfl); (case hop => (apply prd; apply p_fieldAddrB <;> rfl)); (case hq => kernel_rfl))
    all_goals (apply dtk 7; (case hi => rfl); (case hop => (apply r_load1; rfl; (apply Cell.own; (case h => (repeat (first | exact mhd _ | apply mtl))); rfl))); (case hq => kernel_rfl))
    all_goals (apply dtk 8; (case hi => rfl); (case hop => (apply prd; apply p_le <;> rfl)); (case hq => kernel_rfl))
    all_goals (apply dtk 9; (case hi => rfl); (case hop => (apply prd; apply p_move <;> rfl)); (case hq => kernel_rfl))
    all_goals (try (apply d_guardB 10; (case hi => rfl); (case hgd => rfl); (case h1 => rfl); (case h2 => rfl); all_goals (intro h; (try simp only [reduceCtorEq, zzz] at h); first | (exfalso; omega) | skip)))
    all_goals (apply dtg 10; (case hi => rfl); (case hg => rfl); (case hop => (apply prd; apply p_fieldAddrB <;> rfl)); (case hq => kernel_rfl))
    all_goals (try (apply d_guardB 11; (case hi => rfl); (case hgd => rfl); (case h1 => rfl); (case h2 => rfl); all_goals (intro h; (try simp only [reduceCtorEq, zzz] at h))))
    all_goals (apply dtg 11; (case hi => rfl); (case hg => rfl); (case hop => (apply r_load1; rfl; (apply Cell.own; (case h => (repeat (exact mhd _))); rfl))); (case hq => kernel_rfl))
    all_goals (try (apply d_guardB 12; (case hi => rfl); (case hgd => rfl); (case h1 => rfl); (case h2 => rfl); all_goals (intro h; (try simp only [reduceCtorEq, zzz] at h))))
    all_goals (apply dtg 12; (case hi => rfl); (case hg => rfl); (case hop => (apply prd; apply p_eq <;> rfl)); (case hq => kernel_rfl))
    all_goals (apply dtk 13; (case hi => rfl); (case hop => (apply prd; apply p_pickF <;> rfl)); (case hq => kernel_rfl))
    all_goals (apply dtk 14; (case hi => rfl); (case hop => (apply prd; apply p_move <;> rfl)); (case hq => kernel_rfl))
    all_goals (try (apply d_guardB 15; (case hi => rfl); (case hgd => rfl); (case h1 => rfl); (case h2 => rfl); all_goals (intro h; (try simp only [reduceCtorEq, zzz] at h); first | (exfalso; omega) | skip)))
    all_goals (apply dtg 15; (case hi => rfl); (case hg => rfl); (case hop => (apply prd; apply p_fieldAddrB <;> rfl)); (case hq => kernel_rfl))
    all_goals (try (apply d_guardB 16; (case hi => rfl); (case hgd => rfl); (case h1 => rfl); (case h2 => rfl); all_goals (intro h; (try simp only [reduceCtorEq, zzz] at h))))
    all_goals (apply dtg 16; (case hi => rfl); (case hg => rfl); (case hop => (apply r_loadNo; (case hx => rfl); (case h => (repeat (first | exact mhd _ | apply mtl))); (case hd => (repeat (first | with_reducible exact dt_nil | apply dt_here))); (case hn => rfl))); (case hq => kernel_rfl))
    all_goals (try (apply d_guardB 17; (case hi => rfl); (case hgd => rfl); (case h1 => rfl); (case h2 => rfl); all_goals (intro h; (try simp only [reduceCtorEq, zzz] at h))))
    all_goals (apply dtg 17; (case hi => rfl); (case hg => rfl); (case hop => (apply r_loadNo; (case hx => rfl); (case h => (repeat (exact mhd _))); (case hd => (repeat (first | with_reducible exact dt_nil | apply dt_here))); (case hn => rfl))); (case hq => kernel_rfl))
    all_goals (try (apply d_guardB 18; (case hi => rfl); (case hgd => rfl); (case h1 => rfl); (case h2 => rfl); all_goals (intro h; (try simp only [reduceCtorEq, zzz] at h))))
    all_goals (apply d_callJG 18 (hs := ql); (case hi => rfl); (case hg => rfl); (case hr => kernel_rfl); (case ha => rfl); (case hd => rfl))
    all_goals (apply dtk 19; (case hi => rfl); (case hop => (apply prd; apply p_pickF <;> rfl)); (case hq => kernel_rfl))
    all_goals (apply d_done; (case hr => kernel_rfl))
    repeat' (first | apply v_region | apply v_nil | apply v_skip | apply v_blk | (apply v_pure; (case hop => first | (apply p_move <;> rfl) | (apply p_assign <;> rfl) | (apply p_add; (case hx => rfl); (case hy => rfl); (case h => omega)) | fail); (case hd => rfl)) | (apply v_condF; (case hc => rfl)) | fail)
    refine v_drop (ν := [(hb', _)]) (by repeat (first | exact List.Sublist.refl _ | apply List.Sublist.cons)) ?_
    refine v_again rfl ⟨rfl, rfl, k + 1, by omega, rfl⟩ (by simp [headI]; omega)
  repeat' (first | apply v_seq | apply v_region | apply v_nil | apply v_block | (apply v_exit; (case hp => rfl)) | (apply v_pure; (case hop => first | (apply p_move <;> rfl) | (apply p_lt <;> rfl) | (apply p_assign <;> rfl) | (apply p_lenSlice <;> rfl) | (apply p_fieldAddrB <;> rfl) | fail); (case hd => rfl)) | (apply v_cond; (case hc => rfl); all_goals (intro h; (try simp only [reduceCtorEq, zzz] at h); first | (exfalso; omega) | skip)) | (apply v_read; (case hop => (apply r_load1; rfl; (apply Cell.own; (case h => (repeat (exact mhd _))); rfl))); (case hd => rfl)) | fail)
  refine v_loop [5, 1] (fun us G2 μ' => G2 = G' ∧ μ' = [(hb', hardO (hdL H.pr H.pn H.base (.slice A0 H.image.length c0) (.slice A1 H.acc.length c1) (.slice A2 H.cho.length c2)))] ∧ ∃ k, k ≤ H.cho.length ∧ us = [Value.int .i64 (k : Nat), .pointer (some ⟨hb', 0, none⟩)]) (fun us => H.cho.length - (headI us).toNat) rfl ⟨rfl, rfl, 0, by omega, rfl⟩ ?_
  rintro us G2 μ' ⟨rfl, rfl, k, hk, rfl⟩
  by_cases hlt : k < H.cho.length
  · have e1 : ((k : Nat) : Int).toNat = k := by omega
    have hg := g.cho _ (List.getElem_mem hlt)
    have kc0 : GH.cell? G2 (((adr A2).add (k * 10)).add 0) = some (.int .i64 (H.cho[k]).index) := (hcp2 k hlt).cell (j := 0) rfl
    have kc1 : GH.cell? G2 ((((adr A2).add (k * 10)).add 1).add 0) = some (.int .i64 (H.cho[k]).round) := (hcb2 k hlt).cell (j := 0) rfl
    generalize hxe : H.cho[k] = e at *
    obtain ⟨-, -, hg1, hg2, hg3⟩ := hg
    have hA := hs2 (by omega)
    repeat' (first | apply v_seq | apply v_region | apply v_nil | apply v_skip | apply v_block | (apply v_pure; (case hop => first | (apply p_move <;> rfl) | (apply p_lt <;> rfl) | (apply p_lenSlice <;> rfl) | (apply p_fieldAddrB <;> rfl) | fail); (case hd => rfl)) | (apply v_cond; (case hc => rfl); all_goals (intro h; (try simp only [reduceCtorEq, zzz] at h); first | (exfalso; omega) | skip)) | (apply v_read; (case hop => (apply r_load1; rfl; (apply Cell.own; (case h => (repeat (exact mhd _))); rfl))); (case hd => rfl)) | fail)
    refine d_start _ (by kernel_rfl) (by kernel_rfl) (by kernel_rfl) (fun _ he => he) ?_
    all_goals (apply dtk 0; (case hi => rfl); (case hop => (apply prd; apply p_fieldAddrB <;> rfl)); (case hq => kernel_rfl))
    all_goals (apply dtk 1; (case hi => rfl); (case hop => (apply r_load1; rfl; (apply Cell.own; (case h => (repeat (exact mhd _))); rfl))); (case hq => kernel_rfl))
    all_goals (apply dtk 2; (case hi => rfl); (case hop => (apply prd; apply p_move <;> rfl)); (case hq => kernel_rfl))
    all_goals (apply dtk 3; (case hi => rfl); (case hop => (apply prd; apply p_indexAddrS; (case hx => rfl); (case hi => rfl); (case h0 => omega); (case h => omega); (case hA => assumption))); (case hq => kernel_rfl))
    all_goals (apply dtk 4; (case hi => rfl); (case hop => (apply prd; apply p_fieldAddr <;> rfl)); (case hq => kernel_rfl))
    all_goals (apply dtk 5; (case hi => rfl); (case hop => ((apply r_load1; rfl; exact Cell.frozen kc0))); (case hq => kernel_rfl))
    all_goals (apply dtk 6; (case hi => rfl); (case hop => (apply prd; apply p_fieldAddrB <;> rfl)); (case hq => kernel_rfl))
    all_goals (apply dtk 7; (case hi => rfl); (case hop => (apply r_load1; rfl; (apply Cell.own; (case h => (repeat (exact mhd _))); rfl))); (case hq => kernel_rfl))
    all_goals (apply dtk 8; (case hi => rfl); (case hop => (apply prd; apply p_le <;> rfl)); (case hq => kernel_rfl))
    all_goals (apply dtk 9; (case hi => rfl); (case hop => (apply prd; apply p_move <;> rfl)); (case hq => kernel_rfl))
    all_goals (try (apply d_guardB 10; (case hi => rfl); (case hgd => rfl); (case h1 => rfl); (case h2 => rfl); all_goals (intro h; (try simp only [reduceCtorEq, zzz] at h); first | (exfalso; omega) | skip)))
    all_goals (apply dtg 10; (case hi => rfl); (case hg => rfl); (case hop => (apply prd; apply p_fieldAddrB <;> rfl)); (case hq => kernel_rfl))
    all_goals (try (apply d_guardB 11; (case hi => rfl); (case hgd => rfl); (case h1 => rfl); (case h2 => rfl); all_goals (intro h; (try simp only [reduceCtorEq, zzz] at h))))
    all_goals (apply dtg 11; (case hi => rfl); (case hg => rfl); (case hop => (apply r_load1; rfl; (apply Cell.own; (case h => (repeat (exact mhd _))); rfl))); (case hq => kernel_rfl))
    all_goals (try (apply d_guardB 12; (case hi => rfl); (case hgd => rfl); (case h1 => rfl); (case h2 => rfl); all_goals (intro h; (try simp only [reduceCtorEq, zzz] at h))))
    all_goals (apply dtg 12; (case hi => rfl); (case hg => rfl); (case hop => (apply prd; apply p_move <;> rfl)); (case hq => kernel_rfl))
    all_goals (try (apply d_guardB 13; (case hi => rfl); (case hgd => rfl); (case h1 => rfl); (case h2 => rfl); all_goals (intro h; (try simp only [reduceCtorEq, zzz] at h))))
    all_goals (apply dtg 13; (case hi => rfl); (case hg => rfl); (case hop => (apply prd; apply p_indexAddrS; (case hx => rfl); (case hi => rfl); (case h0 => omega); (case h => omega); (case hA => assumption))); (case hq => kernel_rfl))
    all_goals (try (apply d_guardB 14; (case hi => rfl); (case hgd => rfl); (case h1 => rfl); (case h2 => rfl); all_goals (intro h; (try simp only [reduceCtorEq, zzz] at h))))
    all_goals (apply dtg 14; (case hi => rfl); (case hg => rfl); (case hop => (apply prd; apply p_fieldAddr <;> rfl)); (case hq => kernel_rfl))
    all_goals (try (apply d_guardB 15; (case hi => rfl); (case hgd => rfl); (case h1 => rfl); (case h2 => rfl); all_goals (intro h; (try simp only [reduceCtorEq, zzz] at h))))
    all_goals (apply dtg 15; (case hi => rfl); (case hg => rfl); (case hop => (apply prd; apply p_fieldAddrB <;> rfl)); (case hq => kernel_rfl))
    all_goals (try (apply d_guardB 16; (case hi => rfl); (case hgd => rfl); (case h1 => rfl); (case h2 => rfl); all_goals (intro h; (try simp only [reduceCtorEq, zzz] at h))))
    all_goals (apply dtg 16; (case hi => rfl); (case hg => rfl); (case hop => ((apply r_load1; rfl; exact Cell.frozen kc1))); (case hq => kernel_rfl))
    all_goals (try (apply d_guardB 17; (case hi => rfl); (case hgd => rfl); (case h1 => rfl); (case h2 => rfl); all_goals (intro h; (try simp only [reduceCtorEq, zzz] at h))))
    all_goals (apply dtg 17; (case hi => rfl); (case hg => rfl); (case hop => (apply prd; apply p_ne <;> rfl)); (case hq => kernel_rfl))
    all_goals (apply dtk 18; (case hi => rfl); (case hop => (apply prd; apply p_pickF <;> rfl)); (case hq => kernel_rfl))
    all_goals (apply d_done; (case hr => kernel_rfl))
    repeat' (first | apply v_region | apply v_nil | apply v_skip | apply v_blk | (apply v_pure; (case hop => first | (apply p_move <;> rfl) | (apply p_assign <;> rfl) | (apply p_add; (case hx => rfl); (case hy => rfl); (case h => omega)) | fail); (case hd => rfl)) | (apply v_cond; (case hc => rfl); all_goals (intro h; (try simp only [reduceCtorEq, zzz] at h); first | (exfalso; omega) | skip)) | fail)
    refine v_again rfl ⟨rfl, rfl, k + 1, by omega, rfl⟩ (by simp [headI]; omega)
  · repeat' (first | apply v_seq | apply v_region | apply v_nil | (apply v_exit; (case hp => rfl)) | (apply v_pure; (case hop => first | (apply p_move <;> rfl) | (apply p_lt <;> rfl) | (apply p_assign <;> rfl) | (apply p_lenSlice <;> rfl) | (apply p_fieldAddrB <;> rfl) | fail); (case hd => rfl)) | (apply v_cond; (case hc => rfl); all_goals (intro h; (try simp only [reduceCtorEq, zzz] at h); first | (exfalso; omega) | skip)) | (apply v_read; (case hop => (apply r_load1; rfl; (apply Cell.own; (case h => (repeat (exact mhd _))); rfl))); (case hd => rfl)) | fail)
    refine v_ret [] (outsA1 rfl rfl) (by repeat (exact List.nil_sublist _)) ?_
    exact ⟨rfl, rfl⟩
theorem rec_one {G : GH} {x : Rc} {cs : List Value} (h : RcR G x cs) : cs.length = 12 ∧ cs.all Value.oneCell' = true := by
  obtain ⟨iv, rfl, -, -, hi⟩ := h
  obtain ⟨A, c, rfl, -⟩ := hi.openInt
  exact ⟨rfl, rfl⟩
theorem zeroCm_okV : zeroCm.ok := ⟨by decide, by decide, by decide, by decide, by decide, by decide, by decide⟩
theorem chk_one {l : List Ent} (h : chkK l 0 = 0) : ∀ e ∈ l, oneI e = 0 := fun e he => by
  obtain ⟨i, hi, rfl⟩ := List.getElem_of_mem he
  exact chk_all (l.length - 0) 0 rfl h i hi (by omega)
def CheckP (H : Hd) : Prop := mayP H.pr H.pn ∧ (0 ≤ H.base ∧ H.base ≤ 4294967296) ∧ H.image.length ≤ 32768 ∧ (0 < H.base ↔ 0 < H.image.length) ∧ chkK H.acc 0 = 0 ∧ chkK H.cho 0 = 0 ∧ (∀ e ∈ H.acc, H.base < e.index ∧ e.round ≠ 0 ∧ ¬ lessP H.pr H.pn e.round e.node) ∧ (∀ e ∈ H.cho, H.base < e.index ∧ e.round = 0)
noncomputable instance (H : Hd) : Decidable (CheckP H) := Classical.propDecidable _
theorem one_parts {e : Ent} (h : oneI e = 0) : 1 ≤ e.index ∧ e.index ≤ 4294967296 ∧ mayP e.round e.node ∧ cmdI e.cmd = 0 := by
  unfold oneI at h
  split at h
  · omega
  · rename_i hc
    have h1 : ¬ e.index < 1 := fun hh => hc (.inl hh)
    have h2 : ¬ 4294967296 < e.index := fun hh => hc (.inr (.inl hh))
    have h3 : mayP e.round e.node := Decidable.not_not.1 fun hh => hc (.inr (.inr hh))
    exact ⟨by omega, by omega, h3, h⟩
def imgRec (b : Int) (im : List Int) : Rc := ⟨4, 0, 0, b, zeroCm, im⟩
theorem img_ok {b : Int} {im : List Int} (hb : 1 ≤ b ∧ b ≤ 4294967296) (hl : 0 < im.length ∧ im.length ≤ 32768) : chkI (imgRec b im) = 0 := by
  show recI 4 0 0 b zeroCm im.length = 0
  unfold recI ranP
  rw [if_neg (by omega), if_neg (fun hh => hh ⟨fun h => by omega, fun _ => hb⟩), if_neg (by omega), if_neg (by omega), if_neg]
  unfold othP
  rintro (⟨_, h⟩ | ⟨h, _⟩ | ⟨_, h⟩ | h)
  · exact h ⟨rfl, rfl⟩
  · omega
  · exact h rfl
  · exact h ⟨fun _ => hl.1, fun _ => rfl⟩
theorem idx_s {G : GH} {l : List Ent} {sv : Value} (hs : Es G sv l) (f : FuncId) [Callable Tryz.prog f] (cap : List Value) (μ1 : OH) (p : Ent → Bool) (hf : ∀ e ∈ l, Con Tryz.prog f ([] ++ [Value.agg e.cells.toArray] ++ cap).toArray G μ1 (Keeps (.bool (p e)) G μ1)) :
    Con Tryz.prog 128 #[sv, .func (.func f) #[] cap.toArray] G μ1 (fun r G' μ' => G' = G ∧ μ' = μ1 ∧ ∃ z, r = .int .i64 z ∧ (0 ≤ z ↔ l.any p = true) ∧ -1 ≤ z) := by
  obtain ⟨A, c, rfl, hlc, hcm, hsome, hcp, -, -, hok⟩ := esOpen hs
  simp only [maxLen] at hcm
  (refine v_enter Tryz.func128 rfl Tryz.ntmps128 rfl ?_; intro B _)
  repeat' (first | apply v_seq | apply v_region | apply v_nil | apply v_block | (apply v_pure; (case hop => first | (apply p_move <;> rfl) | (apply p_assign <;> rfl) | (apply p_lenSlice <;> rfl) | fail); (case hd => rfl)) | fail)
  refine v_loop [8, 7, 0, 1] (fun us G' μ' => G' = G ∧ μ' = μ1 ∧ ∃ k, k ≤ l.length ∧ us = [Value.int .i64 (k : Nat), .int .i64 (l.length : Nat), .slice A l.length c, .func (.func f) #[] cap.toArray] ∧ ∀ i (h : i < l.length), i < k → p l[i] = false) (fun us => l.length - (headI us).toNat) rfl ⟨rfl, rfl, 0, by omega, rfl, by omega⟩ ?_
  rintro us G' μ' ⟨rfl, rfl, k, hk, rfl, hno⟩
  have e1 : ((k : Nat) : Int).toNat = k := by omega
  by_cases hlt : k < l.length
  · have kc := hcp k hlt
    have hfk := hf _ (List.getElem_mem hlt)
    cases hpe : p l[k]
    · rw [hpe] at hfk
      repeat' (first | apply v_seq | apply v_region | apply v_nil | apply v_skip | apply v_block | apply v_blk | (apply v_pure; (case hop => first | (apply p_move <;> rfl) | (apply p_lt <;> rfl) | (apply p_assign <;> rfl) | (apply p_add; (case hx => rfl); (case hy => rfl); (case h => omega)) | (apply p_indexAddrS; (case hx => rfl); (case hi => rfl); (case h0 => omega); (case h => omega); (case hA => (apply_assumption; omega))) | fail); (case hd => rfl)) | (apply v_condF; (case hc => rfl)) | (apply v_cond; (case hc => rfl); all_goals (intro h; (try simp only [reduceCtorEq, zzz] at h); first | (exfalso; omega) | skip)) | (apply v_read; (case hop => (apply r_loadN; rfl; exact CellsAt.frozen kc; rfl)); (case hd => rfl)) | (apply v_callCK (first := []) (captured := cap) (hs := hfk) (hx := rfl) (ha := rfl) (hp := (by simp : List.Perm _ (_ ++ [])));  (case hd => rfl)) | fail)
      refine v_again rfl ⟨rfl, rfl, k + 1, by omega, rfl, fun i h hi => ?_⟩ (by simp [headI]; omega)
      by_cases hik : i = k
      · subst hik; exact hpe
      · exact hno i h (by omega)
    · rw [hpe] at hfk
      repeat' (first | apply v_seq | apply v_region | apply v_nil | apply v_skip | apply v_block | (apply v_pure; (case hop => first | (apply p_move <;> rfl) | (apply p_lt <;> rfl) | (apply p_assign <;> rfl) | (apply p_indexAddrS; (case hx => rfl); (case hi => rfl); (case h0 => omega); (case h => omega); (case hA => (apply_assumption; omega))) | fail); (case hd => rfl)) | (apply v_condT; (case hc => rfl)) | (apply v_cond; (case hc => rfl); all_goals (intro h; (try simp only [reduceCtorEq, zzz] at h); first | (exfalso; omega) | skip)) | (apply v_read; (case hop => (apply r_loadN; rfl; exact CellsAt.frozen kc; rfl)); (case hd => rfl)) | (apply v_callCK (first := []) (captured := cap) (hs := hfk) (hx := rfl) (ha := rfl) (hp := (by simp : List.Perm _ (_ ++ [])));  (case hd => rfl)) | fail)
      refine v_ret μ' (outsA1 rfl rfl) (List.Sublist.refl _) ?_
      refine ⟨rfl, rfl, _, rfl, ⟨fun _ => ?_, fun _ => by omega⟩, by omega⟩
      rw [List.any_eq_true]
      exact ⟨_, List.getElem_mem hlt, hpe⟩
  · repeat' (first | apply v_seq | apply v_region | apply v_nil | (apply v_exit; (case hp => rfl)) | (apply v_pure; (case hop => first | (apply p_lt <;> rfl) | (apply p_assign <;> rfl) | fail); (case hd => rfl)) | (apply v_cond; (case hc => rfl); all_goals (intro h; (try simp only [reduceCtorEq, zzz] at h); first | (exfalso; omega) | skip)) | fail)
    refine v_ret μ' (outsA1 rfl rfl) (List.Sublist.refl _) ?_
    refine ⟨rfl, rfl, _, rfl, ⟨fun h => by omega, fun h => ?_⟩, by omega⟩
    rw [List.any_eq_true] at h
    obtain ⟨e, he, h⟩ := h
    obtain ⟨i, hi, rfl⟩ := List.getElem_of_mem he
    rw [hno i hi (by omega)] at h
    cases h
theorem has_s {G : GH} {l : List Ent} {sv : Value} (hs : Es G sv l) (f : FuncId) [Callable Tryz.prog f] (cap : List Value) (μ1 : OH) (p : Ent → Bool) (hf : ∀ e ∈ l, Con Tryz.prog f ([] ++ [Value.agg e.cells.toArray] ++ cap).toArray G μ1 (Keeps (.bool (p e)) G μ1)) :
    Con Tryz.prog 85 #[sv, .func (.func f) #[] cap.toArray] G μ1 (Keeps (.bool (l.any p)) G μ1) := by
  have q := idx_s hs f cap μ1 p hf
  apply Con.keeps
  (refine v_enter Tryz.func85 rfl Tryz.ntmps85 rfl ?_; intro B _)
  repeat' (first | apply v_seq | apply v_region | apply v_nil | (apply v_pure; (case hop => first | (apply p_move <;> rfl) | (apply p_assign <;> rfl)); (case hd => rfl)) | fail)
  refine v_call (μ1 := μ1) (μ2 := []) rfl q (by simp) rfl ?_
  rintro _ G1 μ1 - ⟨rfl, rfl, z, rfl, hz, -⟩
  repeat' (first | apply v_nil | (apply v_pure; (case hop => first | (apply p_ge <;> rfl) | (apply p_assign <;> rfl)); (case hd => rfl)) | fail)
  refine v_ret μ1 (outsA1 rfl rfl) (List.sublist_append_left _ _) ?_
  refine ⟨?_, rfl⟩
  rw [dec_eq]
  congr 1
  rw [Bool.eq_iff_iff, decide_eq_true_iff, hz]
def accBad (H : Hd) (e : Ent) : Bool := decide (e.index ≤ H.base ∨ (e.round = 0 ∧ e.node = 0) ∨ lessP H.pr H.pn e.round e.node)
def choBad (H : Hd) (e : Ent) : Bool := decide (e.index ≤ H.base ∨ ¬ (e.round = 0 ∧ e.node = 0))
theorem acc1_s (G : GH) (hb : Nat) (H : Hd) (iv av cv : Value) (x : Ent) : Con Tryz.prog 82 #[.agg x.cells.toArray, .pointer (some ⟨hb, 0, none⟩)] G [(hb, hardO (hdL H.pr H.pn H.base iv av cv))] (Keeps (.bool (accBad H x)) G [(hb, hardO (hdL H.pr H.pn H.base iv av cv))]) := by
  have ql := less_s G H.pr H.pn x.round x.node
  unfold accBad
  generalize hlb : decide (lessP H.pr H.pn x.round x.node) = lb at *
  apply Con.keeps
  (refine v_enter Tryz.func82 rfl Tryz.ntmps82 rfl ?_; intro B _)
  repeat' (first | (apply v_pure; (case hop => (apply eqBal; (case hx => rfl); (case hy => rfl))); (case hd => rfl)) | apply v_seq | apply v_region | apply v_nil | (apply v_take; (case hg => rfl)) | (apply v_pass; (case hg => rfl); (case hn => rfl); (case hd => rfl)) | (apply v_pure; (case hop => first | (apply p_move <;> rfl) | (apply p_le <;> rfl) | (apply p_assign <;> rfl) | (apply p_pickT <;> rfl) | (apply p_pickF <;> rfl) | (apply p_fieldAddrB <;> rfl) | (apply p_build; (case hz => rfl); (case hv => (simp only [List.map_cons, List.map_nil]; repeat (with_reducible exact evs_nil))); (case hb => (apply bldL; repeat (exact bld_nil)))) | fail); (case hd => rfl)) | (apply v_guardB; (case h1 => rfl); (case h2 => rfl); all_goals (intro h; (try simp only [reduceCtorEq, zzz] at h))) | (apply v_box (zs := x.cells); (case hx => rfl); (case hz => rfl); (case hd => rfl); intro b) | (apply v_callJ (hs := ql); (case ha => rfl); (case hd => rfl)) | (apply v_read; (case hop => first | (apply r_loadNo; (case hx => rfl); (case h => (repeat (first | exact mhd _ | apply mtl))); (case hd => (repeat (first | with_reducible exact dt_nil | apply dt_here))); (case hn => rfl)) | (apply r_load1; rfl; (apply Cell.own; (case h => (repeat (first | exact mhd _ | apply mtl))); rfl)) | fail); (case hd => rfl)) | fail)
  all_goals
    (refine v_ret [(hb, _)] (outsA1 rfl rfl) (by repeat (first | exact List.Sublist.refl _ | apply List.Sublist.cons)) ?_
     refine ⟨?_, rfl⟩)
  · rw [decide_eq_true (.inl h)]
  · rw [decide_eq_true (.inr (.inl h))]
  · subst hlb
    congr 1
    rw [decide_eq_decide]
    exact ⟨fun hh => .inr (.inr hh), fun hh => by
      obtain hh | hh | hh := hh
      · contradiction
      · contradiction
      · exact hh⟩
theorem cho1_s (G : GH) (hb : Nat) (H : Hd) (iv av cv : Value) (x : Ent) : Con Tryz.prog 84 #[.agg x.cells.toArray, .pointer (some ⟨hb, 0, none⟩)] G [(hb, hardO (hdL H.pr H.pn H.base iv av cv))] (Keeps (.bool (choBad H x)) G [(hb, hardO (hdL H.pr H.pn H.base iv av cv))]) := by
  unfold choBad
  apply Con.keeps
  (refine v_enter Tryz.func84 rfl Tryz.ntmps84 rfl ?_; intro B _)
  repeat' (first | (apply v_pure; (case hop => (apply neBal; (case hx => rfl); (case hy => rfl))); (case hd => rfl)) | apply v_seq | apply v_region | apply v_nil | (apply v_take; (case hg => rfl)) | (apply v_pass; (case hg => rfl); (case hn => rfl); (case hd => rfl)) | (apply v_pure; (case hop => first | (apply p_move <;> rfl) | (apply p_le <;> rfl) | (apply p_assign <;> rfl) | (apply p_pickT <;> rfl) | (apply p_pickF <;> rfl) | (apply p_fieldAddrB <;> rfl) | (apply p_build; (case hz => rfl); (case hv => (simp only [List.map_cons, List.map_nil]; repeat (with_reducible exact evs_nil))); (case hb => (apply bldL; repeat (exact bld_nil)))) | fail); (case hd => rfl)) | (apply v_guardB; (case h1 => rfl); (case h2 => rfl); all_goals (intro h; (try simp only [reduceCtorEq, zzz] at h))) | (apply v_box (zs := x.cells); (case hx => rfl); (case hz => rfl); (case hd => rfl); intro b) | (apply v_read; (case hop => first | (apply r_loadNo; (case hx => rfl); (case h => (repeat (exact mhd _))); (case hd => (repeat (first | with_reducible exact dt_nil | apply dt_here))); (case hn => rfl)) | (apply r_load1; rfl; (apply Cell.own; (case h => (repeat (first | exact mhd _ | apply mtl))); rfl)) | fail); (case hd => rfl)) | fail)
  all_goals
    (refine v_ret [(hb, _)] (outsA1 rfl rfl) (by repeat (first | exact List.Sublist.refl _ | apply List.Sublist.cons)) ?_
     refine ⟨?_, rfl⟩)
  · rw [decide_eq_true (.inl h)]
  · congr 1
    rw [dec_eq, ← decide_not, decide_eq_decide]
    exact ⟨fun hh => .inr hh, fun hh => by
      obtain hh | hh := hh
      · contradiction
      · exact hh⟩
theorem chk_iff (H : Hd) : CheckP H ↔ mayP H.pr H.pn ∧ ¬ H.base < 0 ∧ ¬ (H.base = 0 ∧ 0 < H.image.length) ∧ (0 < H.base → recI 4 0 0 H.base zeroCm H.image.length = 0) ∧ chkK H.acc 0 = 0 ∧ chkK H.cho 0 = 0 ∧ H.acc.any (accBad H) = false ∧ H.cho.any (choBad H) = false := by
  constructor
  · rintro ⟨h1, h2, h3, h4, h5, h6, h7, h8⟩
    refine ⟨h1, by omega, by omega, fun hb => img_ok (b := H.base) (im := H.image) (by omega) (by omega), h5, h6, ?_, ?_⟩
    · rw [List.any_eq_false]
      intro e he
      obtain ⟨a1, a2, a3⟩ := h7 e he
      unfold accBad
      rw [decide_eq_true_iff]
      rintro (h | h | h)
      · omega
      · exact a2 h.1
      · exact a3 h
    · rw [List.any_eq_false]
      intro e he
      obtain ⟨a1, a2⟩ := h8 e he
      have hm := (one_parts (chk_one h6 e he)).2.2.1
      unfold mayP at hm
      unfold choBad
      rw [decide_eq_true_iff]
      omega
  · rintro ⟨h1, h2, h3, h4, h5, h6, h7, h8⟩
    have hb : H.base ≤ 4294967296 ∧ H.image.length ≤ 32768 ∧ (0 < H.base ↔ 0 < H.image.length) := by
      by_cases h0 : 0 < H.base
      · obtain ⟨-, r2, r3, -, r5⟩ := rec0 (h4 h0)
        have r2' := r2.2 (.inr (.inr rfl))
        have r6 : (4 : Int) = 4 ↔ 0 < H.image.length := Decidable.not_not.1 fun hh => r5 (.inr (.inr (.inr hh)))
        have := r6.1 rfl
        omega
      · omega
    refine ⟨h1, by omega, hb.2.1, hb.2.2, h5, h6, fun e he => ?_, fun e he => ?_⟩
    · have ha := List.any_eq_false.1 h7 e he
      have hm := (one_parts (chk_one h5 e he)).2.2.1
      unfold accBad at ha
      rw [decide_eq_true_iff] at ha
      unfold mayP at hm
      exact ⟨by omega, by omega, fun h => ha (.inr (.inr h))⟩
    · have ha := List.any_eq_false.1 h8 e he
      unfold choBad at ha
      rw [decide_eq_true_iff] at ha
      omega
theorem hChk_s {G : GH} (hT : TabsG G) {H : Hd} {L : List Value} (hh : HdV G H L) : Con Tryz.prog 48 #[.agg L.toArray] G [] (Just (.int .i64 (if CheckP H then 0 else 3)) G) := by
  obtain ⟨iv, av, cv, rfl, hi, ha, hc⟩ := hh
  obtain ⟨A0, c0, rfl, hl0, hm0, -⟩ := hi.openInt
  simp only [maxLen] at hm0
  have qm := may_s G H.pr H.pn
  have qr := recCheck_s hT 4 0 0 H.base zeroCm zeroCm_okV A0 H.image.length c0 (by omega)
  have qa := entCheck_s hT ha
  have qc := entCheck_s hT hc
  have qA := fun hb => has_s ha 82 [.pointer (some ⟨hb, 0, none⟩)] [(hb, hardO (hdL H.pr H.pn H.base (.slice A0 H.image.length c0) av cv))] (accBad H) (fun e _ => acc1_s G hb H (.slice A0 H.image.length c0) av cv e)
  have qC := fun hb => has_s hc 84 [.pointer (some ⟨hb, 0, none⟩)] [(hb, hardO (hdL H.pr H.pn H.base (.slice A0 H.image.length c0) av cv))] (choBad H) (fun e _ => cho1_s G hb H (.slice A0 H.image.length c0) av cv e)
  have hiff := chk_iff H
  obtain ⟨A1, c1, rfl, -⟩ := ha.open
  obtain ⟨A2, c2, rfl, -⟩ := hc.open
  generalize hb1 : decide (mayP H.pr H.pn) = b1 at *
  generalize recI 4 0 0 H.base zeroCm H.image.length = I1 at *
  generalize chkK H.acc 0 = I2 at *
  generalize chkK H.cho 0 = I3 at *
  generalize hb4 : H.acc.any (accBad H) = b4 at *
  generalize hb5 : H.cho.any (choBad H) = b5 at *
  apply Con.just
  (refine v_enter Tryz.func48 rfl Tryz.ntmps48 rfl ?_; intro B _)
  repeat' (first | apply v_seq | apply v_region | apply v_nil | apply v_skip | (apply v_take; (case hg => rfl)) | (apply v_pass; (case hg => rfl); (case hn => rfl); (case hd => rfl)) | (apply v_passN; (case hg => rfl); (case hn => rfl); (case hd => rfl)) | (apply v_pure; (case hop => first | (apply p_move <;> rfl) | (apply p_eq <;> rfl) | (apply p_lt <;> rfl) | (apply p_gt <;> rfl) | (apply p_ne <;> rfl) | (apply p_assign <;> rfl) | (apply p_pickT <;> rfl) | (apply p_pickF <;> rfl) | (apply p_not <;> rfl) | (apply p_lenSlice <;> rfl) | (apply p_fieldAddrB <;> rfl) | (apply p_makeFunc <;> rfl) | (apply p_build; (case hz => rfl); (case hv => (simp only [List.map_cons, List.map_nil]; repeat (first | with_reducible exact evs_nil | (apply evs_cons; (case h1 => rfl))))); (case hb => (apply bldL; repeat (first | exact bld_nil | (apply bld_cons; (case hpf => rfl); (case hc => rfl); (case hs => rfl); (case hl => rfl); (case ho => ((repeat (first | with_reducible exact ov_nil | apply ov_cons)); done))))))) | fail); (case hd => rfl)) | (apply v_condT; (case hc => rfl)) | (apply v_condF; (case hc => rfl)) | (apply v_cond; (case hc => rfl); all_goals (intro h; (try simp only [reduceCtorEq, zzz] at h))) | (apply v_guardB; (case h1 => rfl); (case h2 => rfl); all_goals (intro h; (try simp only [reduceCtorEq, zzz] at h); first | (exfalso; omega) | skip)) | (apply v_callJ (hs := qm); (case ha => rfl); (case hd => rfl)) | (apply v_callJ (hs := qr); (case ha => rfl); (case hd => rfl)) | (apply v_callJ (hs := qa); (case ha => rfl); (case hd => rfl)) | (apply v_callJ (hs := qc); (case ha => rfl); (case hd => rfl)) | (apply v_callK (hs := qA _); (case ha => rfl); (case hp => exact (Pick.perm (by repeat (exact Pick.here _)))); (case hd => rfl)) | (apply v_callK (hs := qC _); (case ha => rfl); (case hp => exact (Pick.perm (by repeat (exact Pick.here _)))); (case hd => rfl)) | (apply v_read; (case hop => first | (apply r_loadNo; (case hx => rfl); (case h => (repeat (exact mhd _))); (case hd => (repeat (first | with_reducible exact dt_nil | apply dt_here))); (case hn => rfl)) | (apply r_load1; rfl; (apply Cell.own; (case h => (repeat (exact mhd _))); rfl)) | fail); (case hd => rfl)) | (apply v_box; (case hx => rfl); (case hz => rfl); (case hd => rfl); intro b) | fail)
  all_goals
    (refine v_ret [] (outsA1 rfl rfl) (by repeat (exact List.nil_sublist _)) ?_
     refine ⟨?_, rfl⟩
     first
       | (rw [if_pos (hiff.2 ⟨of_decide_eq_true (hb1.trans (by assumption)), by omega, by omega, fun _ => by omega, by assumption, by assumption, by assumption, by assumption⟩)]; done)
       | (rw [if_neg (fun hh => by
            obtain ⟨z1, z2, z3, z4, z5, z6, z7, z8⟩ := hiff.1 hh
            first
              | omega
              | exact absurd ((decide_eq_true z1).symm.trans (hb1.trans ‹b1 = false›)) (by decide)
              | exact absurd (z7.symm.trans ‹b4 = true›) (by decide)
              | exact absurd (z8.symm.trans ‹b5 = true›) (by decide))]; done)
       | skip)
def promRec (r n : Int) : Rc := ⟨1, r, n, 0, zeroC, []⟩
def accRec (e : Ent) : Rc := ⟨2, e.round, e.node, e.index, e.cmd, []⟩
def choRec (e : Ent) : Rc := ⟨3, 0, 0, e.index, e.cmd, []⟩
def recsOf (H : Hd) : List Rc := (if 0 < H.base then [imgRec H.base H.image] else []) ++ ((if H.pr = 0 ∧ H.pn = 0 then [] else [promRec H.pr H.pn]) ++ (H.acc.map accRec ++ H.cho.map choRec))
theorem recs_ok {H : Hd} {n : Nat} (g : Good n H) : ∀ x ∈ recsOf H, x.cmd.ok ∧ x.small := by
  have hm := g.may
  have hb := g.base
  unfold mayP at hm
  intro x hx
  unfold recsOf at hx
  simp only [List.mem_append, List.mem_map] at hx
  obtain hx | hx | ⟨e, he, rfl⟩ | ⟨e, he, rfl⟩ := hx
  · split at hx
    · rw [List.mem_singleton] at hx
      subst hx
      refine ⟨zeroC_ok, ?_⟩
      unfold Rc.small imgRec
      simp only
      omega
    · simp at hx
  · split at hx
    · simp at hx
    · rw [List.mem_singleton] at hx
      subst hx
      refine ⟨zeroC_ok, ?_⟩
      unfold Rc.small promRec
      simp only
      omega
  · obtain ⟨a1, a2, a3, a4, a5⟩ := g.acc e he
    obtain ⟨b1, b2, b3, b4⟩ := one_parts a1
    unfold mayP at b3
    refine ⟨a2.2.2.2, ?_⟩
    unfold Rc.small accRec
    simp only
    omega
  · obtain ⟨a1, a2, a3, a4, a5⟩ := g.cho e he
    obtain ⟨b1, b2, b3, b4⟩ := one_parts a1
    refine ⟨a2.2.2.2, ?_⟩
    unfold Rc.small choRec
    simp only
    omega
noncomputable def errsF (f : Int) : List Rc → Int
  | [] => 0
  | x :: l => if errF f x = 0 then errsF f l else errF f x
theorem errsF_drop {f : Int} {l : List Rc} {k : Nat} (h : k < l.length) : errsF f (l.drop k) = if errF f l[k] = 0 then errsF f (l.drop (k + 1)) else errF f l[k] := by
  rw [List.drop_eq_getElem_cons h]
  rfl
def GrowR (G : GH) (v : Value) (l : List Rc) (ν : OH) : Prop := ∃ css : List (List Value), css.length = l.length ∧ (∀ (i : Nat) y cs, l[i]? = some y → css[i]? = some cs → RcR G y cs) ∧ Grow 42 12 v l.length css.flatten ν
theorem GrowR.none (G : GH) : GrowR G (.slice none 0 0) [] [] := ⟨[], rfl, fun i y cs h => by simp at h, Grow.nil _ _⟩
theorem GrowR.le {G G' : GH} (hle : GH.le G G') {v : Value} {l : List Rc} {ν : OH} (h : GrowR G v l ν) : GrowR G' v l ν := by
  obtain ⟨css, h1, h2, h3⟩ := h
  exact ⟨css, h1, fun i y cs hy hc => (h2 i y cs hy hc).le hle, h3⟩
theorem GrowR.snoc {G : GH} {v' : Value} {l : List Rc} {x : Rc} {rx : List Value} {ν' : OH} {css : List (List Value)} (h1 : css.length = l.length) (h2 : ∀ (i : Nat) y cs, l[i]? = some y → css[i]? = some cs → RcR G y cs) (h : Grow 42 12 v' (l.length + 1) (css.flatten ++ rx) ν') (hx : RcR G x rx) : GrowR G v' (l ++ [x]) ν' := by
  refine ⟨css ++ [rx], by simp [h1], fun i y cs hy hc => ?_, by simpa using h⟩
  by_cases hi : i < l.length
  · rw [List.getElem?_append_left hi] at hy
    rw [List.getElem?_append_left (by omega)] at hc
    exact h2 i y cs hy hc
  · rw [List.getElem?_append_right (by omega)] at hy hc
    obtain ⟨k1, k2⟩ := List.getElem?_eq_some_iff.1 hy
    have e : i = l.length := by simp at k1; omega
    subst e
    rw [Nat.sub_self] at hy
    rw [h1, Nat.sub_self] at hc
    simp only [List.getElem?_cons_zero, Option.some.injEq] at hy hc
    subst hy hc
    exact hx
theorem GrowR.rs {G G' : GH} {v : Value} {l : List Rc} {ν : OH} (h : GrowR G v l ν) (hle : GH.le G G') (hG : ∀ b o, (b, o) ∈ ν → G' b = some o) : Rs G' v l := by
  obtain ⟨css, h1, h2, h3⟩ := h
  refine Grow.sl h3 hG h1 fun i y cs hy hc => ?_
  have := (h2 i y cs hy hc).le hle
  exact ⟨(rec_one this).1, this⟩
theorem rcR_nil {G : GH} {x : Rc} (h : x.image = []) (hc : x.cmd.ok) (hs : x.small) : RcR G x (recL x.kind x.round x.node x.index x.cmd (.slice none 0 0)) := ⟨_, rfl, hc, hs, by rw [h]; exact Sl.nil⟩
def part1 (H : Hd) : List Rc := if 0 < H.base then [imgRec H.base H.image] else []
def part2 (H : Hd) : List Rc := part1 H ++ (if H.pr = 0 ∧ H.pn = 0 then [] else [promRec H.pr H.pn])
theorem recsOf_parts (H : Hd) : recsOf H = part2 H ++ H.acc.map accRec ++ H.cho.map choRec := by
  unfold recsOf part2 part1
  simp only [List.append_assoc]
theorem img_rcR {G : GH} {b : Int} {im : List Int} {iv : Value} (h : Sl G 1 (IntR .u8) iv im) (hs : (imgRec b im).small) : RcR G (imgRec b im) (recL 4 0 0 b zeroC iv) := ⟨iv, rfl, zeroC_ok, hs, h⟩
theorem records_s {G : GH} {H : Hd} {L : List Value} {n : Nat} (hh : HdV G H L) (g : Good n H) (hn : n ≤ 40) :
    Con Tryz.prog 49 #[.agg L.toArray] G [] (fun r G' μ' => μ' = [] ∧ Rs G' r (recsOf H)) := by
  have hrok := recs_ok g
  obtain ⟨iv, av, cv, rfl, hi, ha, hc⟩ := hh
  have him := g.img
  have hbs := g.base
  have hnacc := g.nacc
  have hncho := g.ncho
  have qb := bclone_s hi (by omega)
  obtain ⟨A0, c0, rfl, hl0, hm0, -, -, hwx⟩ := id hi.openInt
  obtain ⟨A1, c1, rfl, hl1, hm1, hs1, hcp1, hcb1, hcc1, -⟩ := esOpen ha
  obtain ⟨A2, c2, rfl, hl2, hm2, hs2, hcp2, hcb2, hcc2, -⟩ := esOpen hc
  simp only [maxLen] at hm0 hm1 hm2
  rw [recsOf_parts] at hrok ⊢
  have hp1 : (part1 H).length ≤ 1 := by unfold part1; split <;> simp
  have hp2 : (part2 H).length ≤ 2 := by
    unfold part2
    rw [List.length_append]
    split <;> simp <;> omega
  have hp1o : ∀ x ∈ part1 H, x.cmd.ok ∧ x.small := fun x hx => hrok x (by unfold part2; simp [hx])
  have hp2o : ∀ x ∈ part2 H, x.cmd.ok ∧ x.small := fun x hx => hrok x (by simp [hx])
  (refine v_enter Tryz.func49 rfl Tryz.ntmps49 rfl ?_; intro B _)
  repeat' (first | apply v_seq | apply v_region | apply v_nil | (apply v_pure; (case hop => first | (apply p_gt <;> rfl) | (apply p_assign <;> rfl) | (apply p_fieldAddrB <;> rfl) | fail); (case hd => rfl)) | (apply v_read; (case hop => (apply r_load1; rfl; (apply Cell.own; (case h => (repeat (exact mhd _))); rfl))); (case hd => rfl)) | (apply v_box; (case hx => rfl); (case hz => rfl); (case hd => rfl); intro b) | fail)
  rename Nat => hb
  refine v_cut (fun σ1 G' μ' => GH.le G G' ∧ ∃ v ν, EnvHas σ1 [(3, v), (1, .pointer (some ⟨hb, 0, none⟩))] ∧ GrowR G' v (part1 H) ν ∧ List.Sublist (ν ++ [(hb, hardO (hdL H.pr H.pn H.base (.slice A0 H.image.length c0) (.slice A1 H.acc.length c1) (.slice A2 H.cho.length c2)))]) μ') ?_ ?_
  · intro hcut
    refine v_cond rfl (fun h => ?_) (fun h => ?_)
    · rw [dec_true] at h
      have e1 : part1 H = [imgRec H.base H.image] := by unfold part1; rw [if_pos h]
      have hio := hp1o _ (by rw [e1]; exact List.mem_singleton.2 rfl)
      repeat' (fail)
      refine d_start _ (by kernel_rfl) (by kernel_rfl) (by kernel_rfl) (fun _ he => he) ?_
      all_goals (apply dtk 0; (case hi => rfl); (case hop => (apply prd; apply p_move <;> rfl)); (case hq => kernel_rfl))
      all_goals (apply dtk 1; (case hi => rfl); (case hop => (apply prd; apply p_fieldAddrB <;> rfl)); (case hq => kernel_rfl))
      all_goals (apply dtk 2; (case hi => rfl); (case hop => first | (apply r_loadNo; (case hx => rfl); (case h => (repeat (fail))); (case hd => (repeat (fail))); (case hn => rfl)) | (apply r_load1; rfl; (apply Cell.own; (case h => (repeat (exact mhd _))); rfl)) | (apply r_loadN; rfl; (apply CellsAt.own; (case h => (repeat (fail)))); rfl)); (case hq => kernel_rfl))
      all_goals (apply dtk 3; (case hi => rfl); (case hop => (apply prd; apply p_fieldAddrB <;> rfl)); (case hq => kernel_rfl))
      all_goals (apply dtk 4; (case hi => rfl); (case hop => first | (apply r_loadNo; (case hx => rfl); (case h => (repeat (fail))); (case hd => (repeat (fail))); (case hn => rfl)) | (apply r_load1; rfl; (apply Cell.own; (case h => (repeat (exact mhd _))); rfl)) | (apply r_loadN; rfl; (apply CellsAt.own; (case h => (repeat (fail)))); rfl)); (case hq => kernel_rfl))
      all_goals ((apply d_call 5 (hs := qb); (case hi => rfl); (case hr => kernel_rfl);  (case ha => rfl); (case hp => exact List.Perm.refl _); (case hd => rfl); (case hν' => intro e he; simp at he; simp [he]); rintro r1 _ ν1 - ⟨rfl, hg1⟩; obtain ⟨A4, c4, rfl, -, -⟩ := hg1.shape; refine d_frz ν1 (by repeat (exact PickA.here _)) (by intro e he; simp at he; simp [he]) ?_; intro G2 hle2 hG2; have k1 := img_rcR (b := H.base) (im := H.image) (hg1.ints hG2 hwx) hio.2))
      all_goals (apply dtk 6; (case hi => rfl); (case hop => (apply prd; apply p_build; (case hz => rfl); (case hv => (simp only [List.map_cons, List.map_nil]; repeat (first | with_reducible exact evs_nil | (apply evs_cons; (case h1 => rfl))))); (case hb => (apply bldL; repeat (first | exact bld_nil | (apply bld_cons; (case hpf => rfl); (case hc => rfl); (case hs => rfl); (case hl => rfl); (case ho => ((repeat (first | with_reducible exact ov_nil | apply ov_cons)); done)))))))); (case hq => kernel_rfl))
      all_goals (apply d_buildSlice 7; (case hi => rfl); (case hr => kernel_rfl); (case hT => infer_instance); (case hL => infer_instance); (case hz => rfl); (case hl => rfl); (case hv => (simp only [List.map_cons, List.map_nil]; repeat (first | with_reducible exact evs_nil | (apply evs_cons; (case h1 => rfl))))); (case hp => (apply pk_cons; (case hc => rfl); (case hs => rfl); (case h => (with_reducible exact pk_nil)); (case he => ((repeat (first | with_reducible exact ap_nil | apply ap_cons)); done)))); (case hb => rfl); (case hd => rfl); (case hν => intro e he; exact he); intro bb)
      all_goals (apply d_append 8 (hg := Grow.nil 42 12) (q' := 1) (us := recL 4 0 0 H.base zeroC (.slice A4 H.image.length c4)) (hp := PickA.perm (by repeat (exact PickA.here _))) (hsrc := Src.own (e := 42) (by repeat (exact mhd _)) rfl); (case hi => rfl); (case hr => kernel_rfl); (case hT => infer_instance); (case hL => infer_instance); (case hzs => rfl); (case hsz => omega); (case hs => rfl); (case hx => rfl); (case hb => omega); (case hb' => simp only [maxLen]; omega); (case hd => rfl); (case h1 => rfl); (case hν => intro e he; (simp at he; simp [he]; done)); intro v3 n3 hg3)
      all_goals (apply dtk 9; (case hi => rfl); (case hop => (apply prd; apply p_assign <;> rfl)); (case hq => kernel_rfl))
      all_goals (apply d_done; (case hr => kernel_rfl))
      rw [e1] at hcut
      refine hcut _ _ _ ⟨hle2, v3, n3, ⟨rfl, rfl, trivial⟩, ?_, (List.Sublist.append_left (by repeat (first | exact List.Sublist.refl _ | apply List.Sublist.cons)) _)⟩
      exact GrowR.snoc (css := []) (l := []) rfl (fun i y cs h => by simp at h) hg3 k1
    · rw [dec_false] at h
      have e1 : part1 H = [] := by unfold part1; rw [if_neg h]
      rw [e1] at hcut
      apply v_skip
      exact hcut _ _ _ ⟨GH.le_refl _, .slice none 0 0, [], ⟨rfl, rfl, trivial⟩, GrowR.none _, (by repeat (exact List.Sublist.refl _))⟩
  rintro σ1 G1 μ1 ⟨hle1, v1, ν1, hE, hg1, hμ⟩
  refine v_drop hμ (v_has hE ?_)
  clear hE hμ
  repeat' (first | apply v_seq | apply v_region | apply v_nil | (apply v_pure; (case hop => first | (apply p_fieldAddrB <;> rfl) | (apply p_build; (case hz => rfl); (case hv => (simp only [List.map_cons, List.map_nil]; repeat (with_reducible exact evs_nil))); (case hb => (apply bldL; repeat (exact bld_nil)))) | fail); (case hd => rfl)) | (apply v_pure; (case hop => (apply neBal; (case hx => rfl); (case hy => rfl))); (case hd => rfl)) | (apply v_read; (case hop => (apply r_loadNo; (case hx => rfl); (case h => (repeat (first | exact mhd _ | apply List.mem_append_right))); (case hd => (repeat (first | with_reducible exact dt_nil | apply dt_here))); (case hn => rfl))); (case hd => rfl)) | fail)
  refine v_cut (fun σ1 G' μ' => GH.le G1 G' ∧ ∃ v ν, EnvHas σ1 [(3, v), (1, .pointer (some ⟨hb, 0, none⟩))] ∧ GrowR G' v (part2 H) ν ∧ List.Sublist (ν ++ [(hb, hardO (hdL H.pr H.pn H.base (.slice A0 H.image.length c0) (.slice A1 H.acc.length c1) (.slice A2 H.cho.length c2)))]) μ') ?_ ?_
  · intro hcut
    refine v_cond rfl (fun h => ?_) (fun h => ?_)
    · have h' : ¬ (H.pr = 0 ∧ H.pn = 0) := fun hh => by rw [dec_pos hh] at h; cases h
      have e2 : part2 H = part1 H ++ [promRec H.pr H.pn] := by unfold part2; rw [if_neg h']
      have hio := hp2o _ (by rw [e2]; exact List.mem_append_right _ (List.mem_singleton.2 rfl))
      obtain ⟨css, hcl, hcr, hgr⟩ := id hg1
      repeat' (first | (refine hcut _ _ _ ?_; exact ⟨GH.le_refl _, _, _, ⟨rfl, rfl, trivial⟩, by rw [e2]; exact GrowR.snoc hcl hcr (by assumption) (rcR_nil rfl hio.1 hio.2), (List.Sublist.append_left (by repeat (first | exact List.Sublist.refl _ | apply List.Sublist.cons)) _)⟩) | apply v_region | apply v_nil | (apply v_pure; (case hop => first | (apply p_move <;> rfl) | (apply p_assign <;> rfl) | (apply p_fieldAddrB <;> rfl) | (apply p_build; (case hz => rfl); (case hv => (simp only [List.map_cons, List.map_nil]; repeat (first | with_reducible exact evs_nil | (apply evs_cons; (case h1 => rfl))))); (case hb => (apply bldL; repeat (first | exact bld_nil | (apply bld_cons; (case hpf => rfl); (case hc => rfl); (case hs => rfl); (case hl => rfl); (case ho => ((repeat (first | with_reducible exact ov_nil | apply ov_cons)); done))))))) | fail); (case hd => rfl)) | (apply v_append (hg := hgr) (m' := 1) (us := recL 1 H.pr H.pn 0 zeroC (.slice none 0 0)) (hp := PickA.perm (by repeat (first | exact PickA.here _ | apply PickA.cons))) (hsrc := Src.own (e := 42) (by repeat (exact mhd _)) rfl); (case hzs => rfl); (case hsz => omega); (case hs => rfl); (case hx => rfl); (case hb => omega); (case hb' => simp only [maxLen]; omega); (case hd => rfl); (case h1 => rfl); intro v3 n3 hg3) | (apply v_read; (case hop => (apply r_loadNo; (case hx => rfl); (case h => (repeat (first | exact mhd _ | apply List.mem_append_right))); (case hd => (repeat (first | with_reducible exact dt_nil | apply dt_here))); (case hn => rfl))); (case hd => rfl)) | (apply v_buildSlice; (case hz => rfl); (case hi => rfl); (case hv => (simp only [List.map_cons, List.map_nil]; repeat (first | with_reducible exact evs_nil | (apply evs_cons; (case h1 => rfl))))); (case hp => (apply pk_cons; (case hc => rfl); (case hs => rfl); (case h => (with_reducible exact pk_nil)); (case he => ((repeat (first | with_reducible exact ap_nil | apply ap_cons)); done)))); (case hb => rfl); (case hd => rfl); intro b) | fail)
    · have h' : H.pr = 0 ∧ H.pn = 0 := Decidable.byContradiction fun hh => by rw [dec_neg hh] at h; cases h
      have e2 : part2 H = part1 H := by unfold part2; rw [if_pos h', List.append_nil]
      apply v_skip
      refine hcut _ _ _ ?_
      exact ⟨GH.le_refl _, v1, ν1, ⟨rfl, rfl, trivial⟩, by rw [e2]; exact hg1, List.Sublist.refl _⟩
  rintro σ2 G2 μ2 ⟨hle2, v2, ν2, hE, hg2, hμ⟩
  refine v_drop hμ (v_has hE ?_)
  clear hE hμ
  have hle := GH.le_trans hle1 hle2
  have hcp1' := fun i h => (hcp1 i h).le hle
  have hcp2' := fun i h => (hcp2 i h).le hle
  clear hcp1 hcp2
  repeat' (first | apply v_seq | apply v_region | apply v_nil | apply v_block | (apply v_pure; (case hop => first | (apply p_move <;> rfl) | (apply p_lenSlice <;> rfl) | (apply p_fieldAddrB <;> rfl) | fail); (case hd => rfl)) | (apply v_read; (case hop => (apply r_load1; rfl; (apply Cell.own; (case h => (repeat (first | exact mhd _ | apply List.mem_append_right))); rfl))); (case hd => rfl)) | fail)
  refine v_loop [33, 3, 31, 32, 1] (fun us G' μ' => G' = G2 ∧ ∃ k v ν, k ≤ H.acc.length ∧ us = [Value.int .i64 (k : Nat), v, .slice A1 H.acc.length c1, .int .i64 (H.acc.length : Nat), .pointer (some ⟨hb, 0, none⟩)] ∧ GrowR G2 v (part2 H ++ (H.acc.take k).map accRec) ν ∧ μ' = ν ++ [(hb, hardO (hdL H.pr H.pn H.base (.slice A0 H.image.length c0) (.slice A1 H.acc.length c1) (.slice A2 H.cho.length c2)))]) (fun us => H.acc.length - (headI us).toNat) rfl ⟨rfl, 0, v2, ν2, by omega, rfl, by simpa using hg2, rfl⟩ ?_
  rintro us G' _ ⟨rfl, k, v, ν, hk, rfl, hgk, rfl⟩
  by_cases hlt : k < H.acc.length
  · have e1 : ((k : Nat) : Int).toNat = k := by omega
    have kc := hcp1' k hlt
    have hA := hs1 (by omega)
    have htk : part2 H ++ (H.acc.take (k + 1)).map accRec = (part2 H ++ (H.acc.take k).map accRec) ++ [accRec H.acc[k]] := by
      rw [List.take_succ_eq_append_getElem hlt, List.map_append, ← List.append_assoc]
      rfl
    have hio := hrok (accRec H.acc[k]) (by
      simp only [List.mem_append, List.mem_map]
      exact .inl (.inr ⟨_, List.getElem_mem hlt, rfl⟩))
    have hln : (part2 H ++ (H.acc.take k).map accRec).length ≤ 100 := by
      rw [List.length_append, List.length_map, List.length_take]
      omega
    obtain ⟨css, hcl, hcr, hgr⟩ := id hgk
    generalize hxe : H.acc[k] = e at *
    generalize part2 H ++ (H.acc.take k).map accRec = l0 at *
    repeat' (first | apply v_seq | apply v_region | apply v_nil | apply v_skip | apply v_block | apply v_blk | (apply v_pure; (case hop => first | (apply p_move <;> rfl) | (apply p_lt <;> rfl) | (apply p_assign <;> rfl) | (apply p_fieldAddrB <;> rfl) | (apply p_add; (case hx => rfl); (case hy => rfl); (case h => omega)) | (apply p_indexAddrS; (case hx => rfl); (case hi => rfl); (case h0 => omega); (case h => omega); (case hA => assumption)) | (apply p_build; (case hz => rfl); (case hv => (simp only [List.map_cons, List.map_nil]; repeat (first | with_reducible exact evs_nil | (apply evs_cons; (case h1 => rfl))))); (case hb => (apply bldL; repeat (first | exact bld_nil | (apply bld_cons; (case hpf => rfl); (case hc => rfl); (case hs => rfl); (case hl => rfl); (case ho => ((repeat (first | with_reducible exact ov_nil | apply ov_cons)); done))))))) | fail); (case hd => rfl)) | (apply v_cond; (case hc => rfl); all_goals (intro h; (try simp only [reduceCtorEq, zzz] at h); first | (exfalso; omega) | skip)) | (apply v_read; (case hop => (apply r_loadN; rfl; exact CellsAt.frozen kc; rfl)); (case hd => rfl)) | (apply v_append (hg := hgr) (m' := 1) (us := recL 2 e.round e.node e.index e.cmd (.slice none 0 0)) (hp := PickA.perm (by repeat (first | exact PickA.here _ | apply PickA.cons))) (hsrc := Src.own (e := 42) (by repeat (exact mhd _)) rfl); (case hzs => rfl); (case hsz => omega); (case hs => rfl); (case hx => rfl); (case hb => omega); (case hb' => simp only [maxLen]; omega); (case hd => rfl); (case h1 => rfl); intro v3 n3 hg3) | (apply v_read; (case hop => first | (apply r_loadNo; (case hx => rfl); (case h => (repeat (exact mhd _))); (case hd => (repeat (first | with_reducible exact dt_nil | apply dt_here))); (case hn => rfl)) | (apply r_load1; rfl; (apply Cell.own; (case h => (repeat (exact mhd _))); rfl)) | fail); (case hd => rfl)) | (apply v_buildSlice; (case hz => rfl); (case hi => rfl); (case hv => (simp only [List.map_cons, List.map_nil]; repeat (first | with_reducible exact evs_nil | (apply evs_cons; (case h1 => rfl))))); (case hp => (apply pk_cons; (case hc => rfl); (case hs => rfl); (case h => (with_reducible exact pk_nil)); (case he => ((repeat (first | with_reducible exact ap_nil | apply ap_cons)); done)))); (case hb => rfl); (case hd => rfl); intro b) | (apply v_alloc; (case hz => rfl); (case hd => rfl); intro b) | (apply v_store; (case hp => rfl); (case hx => rfl); (case hc => rfl); (case hsz => rfl); (case h1 => rfl); (case hb => (repeat (exact mhd _))); (case hfit => exact nle rfl); (case hov => ((repeat (first | with_reducible exact ov_nil | apply ov_cons)); done)); (case hu => repeat (first | exact Upd.here _ _ | fail))) | fail)
    refine v_drop (ν := n3 ++ [(hb, hardO (hdL H.pr H.pn H.base (.slice A0 H.image.length c0) (.slice A1 H.acc.length c1) (.slice A2 H.cho.length c2)))]) (List.Sublist.append_left (by repeat (first | exact List.Sublist.refl _ | apply List.Sublist.cons)) _) ?_
    refine v_again rfl ⟨rfl, k + 1, v3, n3, by omega, rfl, ?_, rfl⟩ (by simp [headI]; omega)
    rw [htk]
    exact GrowR.snoc hcl hcr hg3 (rcR_nil rfl hio.1 hio.2)
  · have htk : part2 H ++ (H.acc.take k).map accRec = part2 H ++ H.acc.map accRec := by rw [List.take_of_length_le (by omega)]
    rw [htk] at hgk
    repeat' (first | apply v_seq | apply v_region | apply v_nil | apply v_block | (apply v_exit; (case hp => rfl)) | (apply v_pure; (case hop => first | (apply p_move <;> rfl) | (apply p_lt <;> rfl) | (apply p_lenSlice <;> rfl) | (apply p_fieldAddrB <;> rfl) | fail); (case hd => rfl)) | (apply v_cond; (case hc => rfl); all_goals (intro h; (try simp only [reduceCtorEq, zzz] at h); first | (exfalso; omega) | skip)) | (apply v_read; (case hop => (apply r_load1; rfl; (apply Cell.own; (case h => (repeat (first | exact mhd _ | apply List.mem_append_right))); rfl))); (case hd => rfl)) | fail)
    clear htk hk hlt
    refine v_loop [51, 3, 49, 50, 1] (fun us G2 μ' => G2 = G' ∧ ∃ k v ν, k ≤ H.cho.length ∧ us = [Value.int .i64 (k : Nat), v, .slice A2 H.cho.length c2, .int .i64 (H.cho.length : Nat), .pointer (some ⟨hb, 0, none⟩)] ∧ GrowR G' v (part2 H ++ H.acc.map accRec ++ (H.cho.take k).map choRec) ν ∧ μ' = ν ++ [(hb, hardO (hdL H.pr H.pn H.base (.slice A0 H.image.length c0) (.slice A1 H.acc.length c1) (.slice A2 H.cho.length c2)))]) (fun us => H.cho.length - (headI us).toNat) rfl ⟨rfl, 0, v, ν, by omega, rfl, by simpa using hgk, rfl⟩ ?_
    rintro us _ _ ⟨rfl, k, v, ν, hk, rfl, hgk, rfl⟩
    by_cases hlt : k < H.cho.length
    · have e1 : ((k : Nat) : Int).toNat = k := by omega
      have kc := hcp2' k hlt
      have hA := hs2 (by omega)
      have htk : part2 H ++ H.acc.map accRec ++ (H.cho.take (k + 1)).map choRec = (part2 H ++ H.acc.map accRec ++ (H.cho.take k).map choRec) ++ [choRec H.cho[k]] := by
        rw [List.take_succ_eq_append_getElem hlt, List.map_append, ← List.append_assoc]
        rfl
      have hio := hrok (choRec H.cho[k]) (by
        simp only [List.mem_append, List.mem_map]
        exact .inr ⟨_, List.getElem_mem hlt, rfl⟩)
      have hln : (part2 H ++ H.acc.map accRec ++ (H.cho.take k).map choRec).length ≤ 100 := by
        rw [List.length_append, List.length_append, List.length_map, List.length_map, List.length_take]
        omega
      obtain ⟨css, hcl, hcr, hgr⟩ := id hgk
      generalize hxe : H.cho[k] = e at *
      generalize part2 H ++ H.acc.map accRec ++ (H.cho.take k).map choRec = l0 at *
      repeat' (first | apply v_seq | apply v_region | apply v_nil | apply v_skip | apply v_block | apply v_blk | (apply v_pure; (case hop => first | (apply p_move <;> rfl) | (apply p_lt <;> rfl) | (apply p_assign <;> rfl) | (apply p_fieldAddrB <;> rfl) | (apply p_add; (case hx => rfl); (case hy => rfl); (case h => omega)) | (apply p_indexAddrS; (case hx => rfl); (case hi => rfl); (case h0 => omega); (case h => omega); (case hA => assumption)) | (apply p_build; (case hz => rfl); (case hv => (simp only [List.map_cons, List.map_nil]; repeat (first | with_reducible exact evs_nil | (apply evs_cons; (case h1 => rfl))))); (case hb => (apply bldL; repeat (first | exact bld_nil | (apply bld_cons; (case hpf => rfl); (case hc => rfl); (case hs => rfl); (case hl => rfl); (case ho => ((repeat (first | with_reducible exact ov_nil | apply ov_cons)); done))))))) | fail); (case hd => rfl)) | (apply v_cond; (case hc => rfl); all_goals (intro h; (try simp only [reduceCtorEq, zzz] at h); first | (exfalso; omega) | skip)) | (apply v_read; (case hop => (apply r_loadN; rfl; exact CellsAt.frozen kc; rfl)); (case hd => rfl)) | (apply v_append (hg := hgr) (m' := 1) (us := recL 3 0 0 e.index e.cmd (.slice none 0 0)) (hp := PickA.perm (by repeat (first | exact PickA.here _ | apply PickA.cons))) (hsrc := Src.own (e := 42) (by repeat (exact mhd _)) rfl); (case hzs => rfl); (case hsz => omega); (case hs => rfl); (case hx => rfl); (case hb => omega); (case hb' => simp only [maxLen]; omega); (case hd => rfl); (case h1 => rfl); intro v3 n3 hg3) | (apply v_read; (case hop => first | (apply r_loadNo; (case hx => rfl); (case h => (repeat (exact mhd _))); (case hd => (repeat (first | with_reducible exact dt_nil | apply dt_here))); (case hn => rfl)) | (apply r_load1; rfl; (apply Cell.own; (case h => (repeat (exact mhd _))); rfl)) | fail); (case hd => rfl)) | (apply v_buildSlice; (case hz => rfl); (case hi => rfl); (case hv => (simp only [List.map_cons, List.map_nil]; repeat (first | with_reducible exact evs_nil | (apply evs_cons; (case h1 => rfl))))); (case hp => (apply pk_cons; (case hc => rfl); (case hs => rfl); (case h => (with_reducible exact pk_nil)); (case he => ((repeat (first | with_reducible exact ap_nil | apply ap_cons)); done)))); (case hb => rfl); (case hd => rfl); intro b) | (apply v_alloc; (case hz => rfl); (case hd => rfl); intro b) | (apply v_store; (case hp => rfl); (case hx => rfl); (case hc => rfl); (case hsz => rfl); (case h1 => rfl); (case hb => (repeat (exact mhd _))); (case hfit => exact nle rfl); (case hov => ((repeat (first | with_reducible exact ov_nil | apply ov_cons)); done)); (case hu => repeat (first | exact Upd.here _ _ | fail))) | fail)
      refine v_drop (ν := n3 ++ [(hb, hardO (hdL H.pr H.pn H.base (.slice A0 H.image.length c0) (.slice A1 H.acc.length c1) (.slice A2 H.cho.length c2)))]) (List.Sublist.append_left (by repeat (first | exact List.Sublist.refl _ | apply List.Sublist.cons)) _) ?_
      refine v_again rfl ⟨rfl, k + 1, v3, n3, by omega, rfl, ?_, rfl⟩ (by simp [headI]; omega)
      rw [htk]
      exact GrowR.snoc hcl hcr hg3 (rcR_nil rfl hio.1 hio.2)
    · have htk : part2 H ++ H.acc.map accRec ++ (H.cho.take k).map choRec = part2 H ++ H.acc.map accRec ++ H.cho.map choRec := by rw [List.take_of_length_le (by omega)]
      rw [htk] at hgk
      repeat' (first | apply v_seq | apply v_region | apply v_nil | (apply v_exit; (case hp => rfl)) | (apply v_pure; (case hop => first | (apply p_move <;> rfl) | (apply p_lt <;> rfl) | (apply p_assign <;> rfl) | fail); (case hd => rfl)) | (apply v_cond; (case hc => rfl); all_goals (intro h; (try simp only [reduceCtorEq, zzz] at h); first | (exfalso; omega) | skip)) | fail)
      refine v_frz ν (by repeat (exact PickA.here _)) ?_
      intro G3 hle3 hG3
      refine v_ret [] (outsA1 rfl rfl) (by repeat (exact List.nil_sublist _)) ?_
      exact ⟨rfl, hgk.rs hle3 hG3⟩
noncomputable def headNo (f : Int) (H : Hd) : Int := if f = 1 ∨ f = 2 then (if CheckP H then errsF f (recsOf H) else 3) else 8
theorem frB_max (b : List Int) : (frB b).length ≤ b.length + 15 := by
  have := (vbytes_len (b.length : Int)).1
  rw [frB_len]; omega
theorem flat_take {f : Int} {l : List Rc} {k : Nat} (h : k < l.length) : flatF (encF f) (l.take (k + 1)) = flatF (encF f) (l.take k) ++ frB (encF f l[k]) := by
  rw [List.take_succ_eq_append_getElem h, flatF_app]
  congr 1
  simp [flatF]
set_option maxHeartbeats 1000000 in
theorem head_s {G : GH} (hT : TabsG G) (hC : CrcG G) (f : Int) {H : Hd} {L : List Value} {n : Nat} (hh : HdV G H L) (g : CheckP H → Good n H) (hn : n ≤ 40) (hfw : f ≤ 9223372036854775807) (hlen : (recsOf H).length ≤ 100) (hlg : CheckP H → ∀ x ∈ recsOf H, ¬ x.large) :
    Con Tryz.prog 12 #[.int .i64 f, .agg L.toArray] G [] (fun r G' μ' => μ' = [] ∧ ∃ v, r = .tuple [v, .int .i64 (headNo f H)].toArray ∧ Sl G' 1 (IntR .u8) v (if headNo f H = 0 then fileB encF f (recsOf H).length (recsOf H) else [])) := by
  have qc := hChk_s hT hh
  have qm := vmay_s G f
  unfold headNo
  by_cases hf : f = 1 ∨ f = 2
  · rw [if_pos hf]
    rw [decide_eq_true hf] at qm
    by_cases hck : CheckP H
    · rw [if_pos hck] at qc ⊢
      have qr := records_s hh (g hck) hn
      have hlg := hlg hck
      obtain ⟨iv, av, cv, rfl, hi, ha, hcv⟩ := id hh
      obtain ⟨A0, c0, rfl, -⟩ := hi.openInt
      obtain ⟨A1, c1, rfl, -⟩ := ha.open
      obtain ⟨A2, c2, rfl, -⟩ := hcv.open
      generalize recsOf H = l at *
      (refine v_enter Tryz.func12 rfl Tryz.ntmps12 rfl ?_; intro B _)
      repeat' (first | apply v_seq | apply v_region | apply v_nil | apply v_skip | (apply v_pure; (case hop => first | (apply p_move <;> rfl) | (apply p_nes <;> rfl) | (apply p_assign <;> rfl) | (apply p_not <;> rfl) | fail); (case hd => rfl)) | (apply v_condF; (case hc => rfl)) | (apply v_callJ (hs := qm); (case ha => rfl); (case hd => rfl)) | (apply v_callJ (hs := qc); (case ha => rfl); (case hd => rfl)) | (apply v_read; (case hop => (apply r_loadNo; (case hx => rfl); (case h => (repeat (exact mhd _))); (case hd => (repeat (first | with_reducible exact dt_nil | apply dt_here))); (case hn => rfl))); (case hd => rfl)) | (apply v_box; (case hx => rfl); (case hz => rfl); (case hd => rfl); intro b) | fail)
      refine v_call (μ1 := []) rfl qr (List.Perm.refl _) rfl ?_
      rintro r1 G1 _ hle1 ⟨rfl, hrs⟩
      obtain ⟨A, c, ivf, rfl, hlc, hcm, hsome, hcp, him, hok⟩ := rsOpen hrs
      simp only [maxLen] at hcm
      repeat' (first | apply v_seq | apply v_region | apply v_nil | (apply v_pure; (case hop => first | (apply p_move <;> rfl) | (apply p_assign <;> rfl) | (apply p_lenSlice <;> rfl) | fail); (case hd => rfl)) | fail)
      refine v_call (μ1 := []) rfl (first_s (hC.le hle1) f (l.length : Nat) hfw (by omega)) (List.Perm.refl _) rfl ?_
      rintro r2 G2 ν2 hle2 g2
      repeat' (first | apply v_seq | apply v_region | apply v_nil | apply v_block | (apply v_pure; (case hop => first | (apply p_move <;> rfl) | (apply p_assign <;> rfl) | (apply p_lenSlice <;> rfl) | fail); (case hd => rfl)) | fail)
      refine v_drop (ν := ν2) (List.sublist_append_left _ _) ?_
      refine v_loop [29, 8, 28, 27, 0] (fun us G' μ' => GH.le G2 G' ∧ ∃ (k : Nat) (v : Value), k ≤ l.length ∧ errsF f l = errsF f (l.drop k) ∧ us = [Value.int .i64 (k : Nat), v, .int .i64 (l.length : Nat), .slice A l.length c, .int .i64 f] ∧ (fileB encF f l.length (l.take k)).length ≤ 100 + k * 60000 ∧ byteL (fileB encF f l.length (l.take k)) ∧ Grow 5 1 v (fileB encF f l.length (l.take k)).length ((fileB encF f l.length (l.take k)).map (.int .u8 ·)) μ') (fun us => l.length - (headI us).toNat) rfl ⟨GH.le_refl _, 0, _, by omega, rfl, rfl, ?_, ?_, ?_⟩ ?_
      · have h1 := vbytes_len f
        have h2 := vbytes_len (l.length : Nat)
        have h3 := frB_max (vbytes f ++ vbytes (l.length : Nat))
        rw [List.length_append] at h3
        simp [fileB, flatF]
        omega
      · have := frB_byte ((vbytes_byte hfw).app (vbytes_byte (n := (l.length : Nat)) (by omega))) (headB_ok (f := f) (n := l.length))
        simpa [fileB, flatF] using this
      · simpa [fileB, flatF] using g2
      rintro us G' μ' ⟨hle3, k, v, hk, he, rfl, hsz, hby, hg⟩
      obtain ⟨A3, c3, rfl, -, -⟩ := hg.shape
      have e1 : ((k : Nat) : Int).toNat = k := by omega
      by_cases hlt : k < l.length
      · have hA := hsome (by omega)
        have hle23 := GH.le_trans hle2 hle3
        have hcx := (hcp k hlt).le hle23
        have hix := (him k hlt).mono hle23
        have hcok := hok _ (List.getElem_mem hlt)
        have hd := errsF_drop (f := f) hlt
        have hx : RcV G' l[k] (.agg (recL l[k].kind l[k].round l[k].node l[k].index l[k].cmd (ivf k)).toArray) := ⟨_, rfl, hix⟩
        have hle13 := GH.le_trans hle1 hle23
        have q := sadd_s (hT.le hle13) (hC.le hle13) f hx hcok.1 (hlg _ (List.getElem_mem hlt)) hcok.2
        obtain ⟨Ai, ci, hie, -, -, -, -, hiw⟩ := hix.openInt
        have hmax : errF f (l[k]'hlt) = 0 → (encF f (l[k]'hlt)).length ≤ 50000 ∧ wfL (encF f (l[k]'hlt)) := fun h' => encF_ok h' hcok.1 hiw
        have hone := encF_one (f := f) (x := l[k]'hlt)
        rw [hie] at q hcx
        have hft := flat_take (f := f) hlt
        have hfb := frB_max (encF f l[k])
        have hfile : fileB encF f l.length (l.take (k + 1)) = fileB encF f l.length (l.take k) ++ frB (encF f l[k]) := by
          unfold fileB
          rw [hft, List.append_assoc]
        unfold AddS at q
        clear hft hx hix hcok hcp him hok qr qc g2
        generalize l[k] = x at *
        repeat' (first | apply v_seq | apply v_region | apply v_nil | apply v_skip | apply v_block | (apply v_pure; (case hop => first | (apply p_move <;> rfl) | (apply p_lt <;> rfl) | (apply p_indexAddrS; (case hx => rfl); (case hi => rfl); (case h0 => omega); (case h => omega); (case hA => assumption)) | fail); (case hd => rfl)) | (apply v_cond; (case hc => rfl); all_goals (intro h; (try simp only [reduceCtorEq, zzz] at h); first | (exfalso; omega) | skip)) | (apply v_read; (case hop => (apply r_loadN; rfl; exact CellsAt.frozen hcx; rfl)); (case hd => rfl)) | (apply v_read; (case hop => (apply r_loadNo; (case hx => rfl); (case h => (repeat (exact mhd _))); (case hd => (repeat (first | with_reducible exact dt_nil | apply dt_here))); (case hn => rfl))); (case hd => rfl)) | (apply v_alloc; (case hz => rfl); (case hd => rfl); intro b) | (apply v_store; (case hp => rfl); (case hx => rfl); (case hc => rfl); (case hsz => rfl); (case h1 => rfl); (case hb => (repeat (exact mhd _))); (case hfit => exact nle rfl); (case hov => ((repeat (first | with_reducible exact ov_nil | apply ov_cons)); done)); (case hu => repeat (exact Upd.here _ _))) | fail)
        refine v_call (μ1 := []) rfl q (List.Perm.refl _) rfl ?_
        rintro _ G4 _ hle4 ⟨rfl, v4, rfl, s4⟩
        by_cases h0 : errF f x = 0
        · rw [if_pos h0] at s4 hd
          rw [h0]
          obtain ⟨hm1, hm2⟩ := hmax h0
          have hsd := fun μ => Src.ints (μ := μ) s4
          obtain ⟨A4, c4, rfl, hlc4, hcm4, -⟩ := s4.openInt
          have hb2 := frB_byte (wfL.byte hm2) ⟨hone, by omega⟩
          generalize fileB encF f l.length (l.take k) = P at *
          generalize frB (encF f x) = Q at *
          repeat' (first | apply v_seq | apply v_region | apply v_nil | apply v_skip | apply v_blk | (apply v_pure; (case hop => first | (apply p_move <;> rfl) | (apply p_nes <;> rfl) | (apply p_assign <;> rfl) | (apply p_extract0 <;> rfl) | (apply p_extract1 <;> rfl) | (apply p_add; (case hx => rfl); (case hy => rfl); (case h => omega)) | fail); (case hd => rfl)) | (apply v_condF; (case hc => rfl)) | (apply v_append (hg := hg) (m' := Q.length) (us := Q.map (.int .u8 ·)) (hp := PickA.perm (by repeat (first | exact PickA.last | apply PickA.cons))) (hsrc := hsd _); (case hzs => rfl); (case hsz => omega); (case hs => rfl); (case hx => rfl); (case hb => omega); (case hb' => simp only [maxLen]; omega); (case hd => rfl); (case h1 => exact allOne_ints Q); intro v5 n5 hg5) | fail)
          refine v_only n5 (by repeat (exact PickA.here _)) ?_
          refine v_again rfl ⟨GH.le_trans hle3 hle4, k + 1, v5, by omega, by rw [he, hd], rfl, ?_, ?_, ?_⟩ (by simp [headI]; omega)
          · rw [hfile, List.length_append]; omega
          · rw [hfile]; exact hby.app hb2
          · rw [hfile, List.length_append, List.map_append]; exact hg5
        · rw [if_neg h0] at s4 hd
          obtain ⟨A4, c4, rfl, -⟩ := s4.openInt
          repeat' (first | apply v_seq | apply v_region | apply v_nil | (apply v_pure; (case hop => first | (apply p_move <;> rfl) | (apply p_ne <;> rfl) | (apply p_assign <;> rfl) | (apply p_extract0 <;> rfl) | (apply p_extract1 <;> rfl) | fail); (case hd => rfl)) | (apply v_cond; (case hc => rfl); all_goals (intro h; (try simp only [reduceCtorEq, zzz] at h); first | (exfalso; omega) | skip)) | fail)
          refine v_ret [] (outsA2 rfl rfl rfl) (List.nil_sublist _) ?_
          exact ⟨rfl, _, by rw [he, hd], by rw [he, hd, if_neg h0]; exact Sl.nil⟩
      · obtain rfl : k = l.length := by omega
        rw [List.drop_length] at he
        rw [List.take_length] at hg hby ⊢
        repeat' (first | apply v_seq | apply v_region | apply v_nil | (apply v_exit; (case hp => rfl)) | (apply v_pure; (case hop => first | (apply p_move <;> rfl) | (apply p_lt <;> rfl) | (apply p_assign <;> rfl) | fail); (case hd => rfl)) | (apply v_cond; (case hc => rfl); all_goals (intro h; (try simp only [reduceCtorEq, zzz] at h); first | (exfalso; omega) | skip)) | fail)
        refine v_frzP (r := []) μ' (List.Perm.of_eq (by simp)) ?_
        intro G5 hle5 hG5
        have s5 := hg.ints hG5 (byteL.wf hby)
        refine v_ret [] (outsA2 rfl rfl rfl) (List.nil_sublist _) ?_
        exact ⟨rfl, _, by rw [he]; rfl, by rw [he, if_pos (show errsF f [] = 0 from rfl)]; exact s5⟩
    · rw [if_neg hck] at qc ⊢
      obtain ⟨iv, av, cv, rfl, hi, ha, hcv⟩ := id hh
      obtain ⟨A0, c0, rfl, -⟩ := hi.openInt
      obtain ⟨A1, c1, rfl, -⟩ := ha.open
      obtain ⟨A2, c2, rfl, -⟩ := hcv.open
      (refine v_enter Tryz.func12 rfl Tryz.ntmps12 rfl ?_; intro B _)
      repeat' (first | apply v_seq | apply v_region | apply v_nil | apply v_skip | (apply v_pure; (case hop => first | (apply p_move <;> rfl) | (apply p_ne <;> rfl) | (apply p_assign <;> rfl) | (apply p_not <;> rfl) | fail); (case hd => rfl)) | (apply v_condF; (case hc => rfl)) | (apply v_cond; (case hc => rfl); all_goals (intro h; (try simp only [reduceCtorEq, zzz] at h); first | (exfalso; omega) | skip)) | (apply v_callJ (hs := qm); (case ha => rfl); (case hd => rfl)) | (apply v_callJ (hs := qc); (case ha => rfl); (case hd => rfl)) | (apply v_read; (case hop => (apply r_loadNo; (case hx => rfl); (case h => (repeat (exact mhd _))); (case hd => (repeat (first | with_reducible exact dt_nil | apply dt_here))); (case hn => rfl))); (case hd => rfl)) | (apply v_box; (case hx => rfl); (case hz => rfl); (case hd => rfl); intro b) | fail)
      all_goals
        (refine v_ret [] (outsA2 rfl rfl rfl) (by repeat (exact List.nil_sublist _)) ?_
         exact ⟨rfl, _, rfl, by rw [if_neg (by decide)]; exact Sl.nil⟩)
  · rw [if_neg hf]
    rw [decide_eq_false hf] at qm
    obtain ⟨iv, av, cv, rfl, hi, ha, hcv⟩ := id hh
    obtain ⟨A0, c0, rfl, -⟩ := hi.openInt
    obtain ⟨A1, c1, rfl, -⟩ := ha.open
    obtain ⟨A2, c2, rfl, -⟩ := hcv.open
    (refine v_enter Tryz.func12 rfl Tryz.ntmps12 rfl ?_; intro B _)
    repeat' (first | apply v_seq | apply v_region | apply v_nil | (apply v_pure; (case hop => first | (apply p_move <;> rfl) | (apply p_assign <;> rfl) | (apply p_not <;> rfl) | fail); (case hd => rfl)) | (apply v_condT; (case hc => rfl)) | (apply v_callJ (hs := qm); (case ha => rfl); (case hd => rfl)) | (apply v_box; (case hx => rfl); (case hz => rfl); (case hd => rfl); intro b) | fail)
    all_goals
      (refine v_ret [] (outsA2 rfl rfl rfl) (by repeat (exact List.nil_sublist _)) ?_
       exact ⟨rfl, _, rfl, by rw [if_neg (by decide)]; exact Sl.nil⟩)
open Classical in
noncomputable def decF (f : Int) (b : List Int) : Option Rc := if f = 1 then (if decOk (some b) then some (decX (some b)) else none) else if f = 2 then (if decTOk (some b) then some (decT (some b)).1 else none) else none
theorem decF1 (b : List Int) : (decOk (some b) ∧ decF 1 b = some (decX (some b))) ∨ (¬ decOk (some b) ∧ decF 1 b = none) := by
  unfold decF
  rw [if_pos rfl]
  by_cases h : decOk (some b)
  · rw [if_pos h]; exact .inl ⟨h, rfl⟩
  · rw [if_neg h]; exact .inr ⟨h, rfl⟩
theorem decF2 (b : List Int) : (decTOk (some b) ∧ decF 2 b = some (decT (some b)).1) ∨ (¬ decTOk (some b) ∧ decF 2 b = none) := by
  unfold decF
  rw [if_neg (by decide), if_pos rfl]
  by_cases h : decTOk (some b)
  · rw [if_pos h]; exact .inl ⟨h, rfl⟩
  · rw [if_neg h]; exact .inr ⟨h, rfl⟩
theorem decFN {f : Int} (h : ¬ (f = 1 ∨ f = 2)) (b : List Int) : decF f b = none := by
  unfold decF
  rw [if_neg (by omega), if_neg (by omega)]
theorem decF_inv {f : Int} {b : List Int} {x : Rc} (hb : byteL b) (h : decF f b = some x) : (f = 1 ∨ f = 2) ∧ errF f x = 0 ∧ encF f x = b ∧ x.cmd.ok ∧ x.small := by
  have hby : byteS (some b) := fun r hr y hy => by cases hr; exact hb y hy
  by_cases h1 : f = 1
  · subst h1
    obtain ⟨h2, h3⟩ | ⟨-, h3⟩ := decF1 b
    · rw [h3] at h
      obtain rfl := Option.some.inj h
      have ho := h2.2.2
      exact ⟨.inl rfl, by rw [errF1]; exact ho, by unfold encF; rw [if_pos rfl]; exact enc_dec hby h2, decX_ok hby, (fits0 (older0 ho).1).2.1⟩
    · rw [h3] at h
      cases h
  · by_cases h2 : f = 2
    · subst h2
      obtain ⟨h2, h3⟩ | ⟨-, h3⟩ := decF2 b
      · rw [h3] at h
        obtain rfl := Option.some.inj h
        have ho := h2.2.2.2
        exact ⟨.inr rfl, by rw [errF2]; exact ho, by unfold encF; rw [if_neg (by decide)]; exact encT_dec hby h2, rdX_ok (numS_b hby _), (fits0 (show recI _ _ _ _ _ _ = 0 from ho)).2.1⟩
      · rw [h3] at h
        cases h
    · rw [decFN (by omega)] at h
      cases h
theorem encL_size {x : Rc} (h : olderI x = 0) (hi : x.image.length ≤ 300) : 3 ≤ (encL x).length ∧ (encL x).length ≤ 7000 := by
  obtain ⟨hf, hsm, him, hsz⟩ := fits0 (older0 h).1
  have hh := headL_len x
  have h3 : 3 ≤ (headL x).length := by
    have h1 := (vbytes_len x.kind).2
    have h2 := (vbytes_len x.round).2
    have h3 := (vbytes_len x.node).2
    unfold headL
    simp only [List.length_append]
    omega
  have h4 := (vbytes_len x.cmd.kind).1
  have h5 := putL_len x.cmd (by omega) (by omega) (by omega) 6
  have h6 := (vbytes_len (x.image.length : Nat)).1
  unfold encL
  split
  · rw [List.length_append, List.length_append]; omega
  · split
    · rw [List.length_append, List.length_append]; omega
    · omega
theorem encT_size {x : Rc} (h : chkI x = 0) (hi : x.image.length ≤ 300) : 3 ≤ (encT x).length ∧ (encT x).length ≤ 7000 := by
  have h0 : recI x.kind x.round x.node x.index x.cmd x.image.length = 0 := h
  obtain ⟨hf, hsm, him, hsz⟩ := fits0 h0
  have hk := (rec0 h0).1
  have h1 := vbytes_len (x.kind + 16)
  have h2 := vbytes_len x.round
  have h3 := vbytes_len x.node
  have h4 := vbytes_len x.index
  have h5 := vbytes_len x.cmd.kind
  have h6 := vbytes_len (x.image.length : Nat)
  have h7 := putW_len (wantB 2 x.cmd.kind) x.cmd (by omega) (by omega) (by omega) 6
  unfold encT tailT
  generalize vbytes (x.kind + 16) = V at *
  obtain h | h | h | h : x.kind = 1 ∨ x.kind = 2 ∨ x.kind = 3 ∨ x.kind = 4 := by omega
  all_goals
    simp [h]
    omega
theorem encF_size {f : Int} {x : Rc} (h : errF f x = 0) (hi : x.image.length ≤ 300) : 3 ≤ (encF f x).length ∧ (encF f x).length ≤ 7000 := by
  by_cases h1 : f = 1
  · subst h1
    rw [errF1] at h
    unfold encF
    rw [if_pos rfl]
    exact encL_size h hi
  · by_cases h2 : f = 2
    · subst h2
      rw [errF2] at h
      unfold encF
      rw [if_neg (by decide)]
      exact encT_size h hi
    · rw [errFN (by omega)] at h
      cases h
theorem three_of {f : Int} {x : Rc} (h : errF f x = 0) : 3 ≤ (encF f x).length := by
  by_cases hi : x.image.length ≤ 300
  · exact (encF_size h hi).1
  · have h1 := encF_size (f := f) (x := { x with image := [] })
    by_cases h1 : f = 1
    · subst h1
      rw [errF1] at h
      have h1 := (vbytes_len x.kind).2
      have h2 := (vbytes_len x.round).2
      have h3 := (vbytes_len x.node).2
      unfold encF encL headL
      rw [if_pos rfl]
      split
      · simp only [List.length_append]; omega
      · split
        · simp only [List.length_append]; omega
        · simp only [List.length_append]; omega
    · by_cases h2 : f = 2
      · subst h2
        rw [errF2] at h
        have h0 : recI x.kind x.round x.node x.index x.cmd x.image.length = 0 := h
        have hk := (rec0 h0).1
        have ho := (rec0 h0).2.2.2.2
        have h4 : x.kind = 4 := by
          unfold othP at ho
          omega
        have h6 := vbytes_len (x.kind + 16)
        unfold encF encT tailT
        rw [if_neg (by decide)]
        generalize vbytes (x.kind + 16) = V at *
        simp [h4]
        omega
      · rw [errFN (by omega)] at h
        cases h
theorem recs_many : ∀ bs : List (List Int), (∀ b ∈ bs, 3 ≤ b.length) → 8 * bs.length ≤ (bs.map frB).flatten.length
  | [], _ => by simp
  | b :: bs, h => by
    have h1 := frB_len b
    have h2 := (vbytes_len (b.length : Int)).2
    have h3 := h b (List.mem_cons_self)
    have := recs_many bs fun y hy => h y (List.mem_cons_of_mem _ hy)
    rw [List.map_cons, List.flatten_cons, List.length_append, List.length_cons]
    omega
theorem readF_few {B : List Int} {f : Int} {xs : List Rc} {k : Nat} (hw : byteL B) (h : readF decF B = some (f, xs, k)) : (f = 1 ∨ f = 2) ∧ 8 * xs.length ≤ B.length ∧ ∀ x ∈ xs, errF f x = 0 ∧ x.cmd.ok ∧ x.small := by
  cases hn : nextF B with
  | none => rw [readF_none decF hn] at h; cases h
  | some p =>
    obtain ⟨hd, r⟩ := p
    rw [readF_some decF hn] at h
    split at h
    · rename_i hc
      obtain ⟨h1, h2, h3⟩ := hc
      simp only [Option.some.injEq, Prod.mk.injEq] at h
      obtain ⟨e1, e2, e3⟩ := h
      obtain ⟨e, hok⟩ := nextF_inv hw hn
      have hr : byteL r := fun y hy => hw y (by rw [e]; exact List.mem_append_right _ hy)
      obtain ⟨bs, r1, r2, r3⟩ := recsF_inv (decF (headF B.length hd).1) B.length r hr
      rw [e2] at r3
      rw [e1] at r3 h2
      have hlen : bs.length = xs.length := by
        have := congrArg List.length r3
        simpa using this
      have hbb : ∀ b ∈ bs, byteL b := fun b hb y hy => by
        refine hr y ?_
        rw [r1]
        refine List.mem_append_left _ (List.mem_flatten.2 ⟨frB b, List.mem_map.2 ⟨b, hb, rfl⟩, ?_⟩)
        unfold frB
        simp [hy]
      have hd : ∀ x ∈ xs, ∃ b ∈ bs, decF f b = some x := fun x hx => by
        have : some x ∈ bs.map (decF f) := by rw [r3]; exact List.mem_map.2 ⟨x, hx, rfl⟩
        obtain ⟨b, hb, he⟩ := List.mem_map.1 this
        exact ⟨b, hb, he⟩
      have hd' : ∀ b ∈ bs, ∃ x, decF f b = some x := fun b hb => by
        have : decF f b ∈ xs.map some := by rw [← r3]; exact List.mem_map.2 ⟨b, hb, rfl⟩
        obtain ⟨x, -, he⟩ := List.mem_map.1 this
        exact ⟨x, he.symm⟩
      have hm := recs_many bs fun b hb => by
        obtain ⟨x, hx⟩ := hd' b hb
        obtain ⟨-, g1, g2, -⟩ := decF_inv (hbb b hb) hx
        rw [← g2]
        exact three_of g1
      have hBl := congrArg List.length e
      have hrl := congrArg List.length r1
      rw [List.length_append] at hBl hrl
      refine ⟨h2, by omega, fun x hx => ?_⟩
      obtain ⟨b, hb, hx⟩ := hd x hx
      obtain ⟨-, g1, g2, g3, g4⟩ := decF_inv (hbb b hb) hx
      exact ⟨g1, g3, g4⟩
    · cases h
def GetR (f : Int) (l : List Int) (r : Value) (G' : GH) (μ' : OH) : Prop := μ' = [] ∧ ∃ x v e, r = .tuple [v, .int .i64 e].toArray ∧ RcV G' x v ∧ ((decF f l = some x ∧ e = 0) ∨ (decF f l = none ∧ e ≠ 0))
theorem getF_s {G : GH} (hT : TabsG G) (f : Int) {l : List Int} {bv : Value} (hs : Sl G 1 (IntR .u8) bv l) (hl : l.length ≤ 1048000) : Con Tryz.prog 107 #[.int .i64 f, bv] G [] (GetR f l) := by
  by_cases h1 : f = 1
  · subst h1
    refine (get1_s hT hs hl).mono ?_
    rintro r G' μ' ⟨rfl, x, v, e, rfl, hx, hc⟩
    refine ⟨rfl, x, v, e, rfl, hx, ?_⟩
    obtain ⟨g1, g2⟩ | ⟨g1, g2⟩ := decF1 l
    · obtain ⟨-, rfl, rfl⟩ | ⟨h, -⟩ := hc
      · exact .inl ⟨g2, rfl⟩
      · exact absurd g1 h
    · obtain ⟨h, -⟩ | ⟨-, rfl, h⟩ := hc
      · exact absurd h g1
      · exact .inr ⟨g2, h⟩
  · by_cases h2 : f = 2
    · subst h2
      refine (get2_s hT hs hl).mono ?_
      rintro r G' μ' ⟨rfl, x, v, e, rfl, hx, hc⟩
      refine ⟨rfl, x, v, e, rfl, hx, ?_⟩
      obtain ⟨g1, g2⟩ | ⟨g1, g2⟩ := decF2 l
      · obtain ⟨-, rfl, rfl⟩ | ⟨h, -⟩ := hc
        · exact .inl ⟨g2, rfl⟩
        · exact absurd g1 h
      · obtain ⟨h, -⟩ | ⟨-, rfl, h⟩ := hc
        · exact absurd h g1
        · exact .inr ⟨g2, h⟩
    · refine (getN_s (by omega) bv).mono ?_
      rintro r G' μ' ⟨rfl, rfl, rfl⟩
      exact ⟨rfl, zeroRc, _, 8, rfl, ⟨_, rfl, Sl.nil⟩, .inr ⟨decFN (by omega) _, by decide⟩⟩
def rdL (bv : Value) (at_ f : Int) (lv : Value) : List Value := [bv, .int .i64 at_, .int .i64 f, .int .i64 0, .int .i64 0, .int .i64 0, .slice none 0 0, .slice none 0 0, .slice none 0 0, .int .i64 0, .int .i64 0, lv]
abbrev sgO (bv : Value) (at_ f : Int) (lv : Value) : Obj := .cells (rdL bv at_ f lv).toArray 106 (0, 0)
def BegR (B : List Int) (rb : Nat) (sv : Value) (r : Value) (μ' : OH) : Prop := ∃ (at_ : Nat) (f n : Int) (is : Bool), at_ ≤ B.length ∧ r = .tuple [.int .i64 n, .bool is].toArray ∧ μ' = [(rb, sgO sv (at_ : Nat) f (.slice none 0 0))] ∧ ((nextF B = none ∧ is = false) ∨ ∃ hd t, nextF B = some (hd, t) ∧ at_ = B.length - t.length ∧ f = (headF B.length hd).1 ∧ n = (headF B.length hd).2.1 ∧ is = decide ((headF B.length hd).2.2 = true ∧ ((headF B.length hd).1 = 1 ∨ (headF B.length hd).1 = 2)))
theorem nextF_body {l b r : List Int} (hw : byteL l) (h : nextF l = some (b, r)) : b.length ≤ l.length ∧ r.length ≤ l.length := by
  obtain ⟨e, -⟩ := nextF_inv hw h
  have h1 := congrArg List.length e
  have h2 := frB_len b
  rw [List.length_append] at h1
  omega
theorem begin_s {G : GH} (hC : CrcG G) {D : List Int} {sv : Value} (rb : Nat) (hs : Sl G 1 (IntR .u8) sv D) (hl : D.length ≤ 1048000) : Con Tryz.prog 61 #[.pointer (some ⟨rb, 0, none⟩)] G [(rb, sgO sv 0 0 (.slice none 0 0))] (fun r G' μ' => BegR D rb sv r μ') := by
  have q1 := fnext_s hC 0 hs (by omega) (by omega)
  have hbd := fun b r => nextF_body (l := D) (b := b) (r := r) (fun y hy => sl_byte hs y hy)
  unfold BegR
  unfold NextR at q1
  rw [List.drop_zero] at q1
  obtain ⟨A, c, rfl, -⟩ := id hs.openInt
  (refine v_enter Tryz.func61 rfl Tryz.ntmps61 rfl ?_; intro B _)
  repeat' (first | apply v_seq | apply v_region | apply v_nil | (apply v_pure; (case hop => first | (apply p_move <;> rfl) | (apply p_assign <;> rfl) | (apply p_fieldAddrB <;> rfl) | (apply p_nilCheck <;> rfl) | fail); (case hd => rfl)) | (apply v_read; (case hop => (apply r_load1; rfl; (apply Cell.own; (case h => (repeat (exact mhd _))); rfl))); (case hd => rfl)) | fail)
  refine v_call (μ1 := []) rfl q1 (List.Perm.refl _) rfl ?_
  rintro _ G1 _ hle1 ⟨rfl, v, z, e, rfl, ⟨hd, t, hn, sv1, rfl, rfl⟩ | ⟨hn, he, rfl, rfl⟩⟩
  · obtain ⟨A1, c1, rfl, -⟩ := id sv1.openInt
    have hbl := hbd _ _ hn
    repeat' (first | apply v_seq | apply v_region | apply v_nil | apply v_skip | (apply v_pure; (case hop => first | (apply p_move <;> rfl) | (apply p_nes <;> rfl) | (apply p_assign <;> rfl) | (apply p_extract0 <;> rfl) | (apply p_extract1 <;> rfl) | (apply p_extract2 <;> rfl) | fail); (case hd => rfl)) | (apply v_condF; (case hc => rfl)) | fail)
    refine v_call (μ1 := []) rfl (newReader_s sv1 (by omega)) (List.Perm.refl _) rfl ?_
    rintro _ G2 _ - ⟨hle2, b1, bv1, rfl, rfl, hs1⟩
    have hr0 : RdS hd 0 0 (some hd) := ⟨by omega, .inr ⟨by simp, rfl⟩⟩
    repeat' (first | apply v_seq | apply v_region | apply v_nil | (apply v_pure; (case hop => first | (apply p_move <;> rfl) | (apply p_assign <;> rfl) | fail); (case hd => rfl)) | fail)
    refine v_call (μ1 := [(b1, _)]) rfl (rdNumber_s b1 _ _ 2 hs1 (by omega) hr0) (PickA.perm (by repeat (exact PickA.here _))) rfl ?_
    rintro _ _ _ - ⟨rfl, rfl, a1, no1, rfl, hr1⟩
    repeat' (first | apply v_seq | apply v_region | apply v_nil | (apply v_pure; (case hop => first | (apply p_move <;> rfl) | (apply p_lenSlice <;> rfl) | (apply p_fieldAddrB <;> rfl) | (apply p_nilCheck <;> rfl) | fail); (case hd => rfl)) | (apply v_read; (case hop => (apply r_load1; rfl; (apply Cell.own; (case h => (repeat (first | exact mhd _ | apply mtl))); rfl))); (case hd => rfl)) | (apply v_store; (case hp => rfl); (case hx => rfl); (case hc => rfl); (case hsz => rfl); (case h1 => rfl); (case hb => (repeat (first | exact mhd _ | apply mtl))); (case hfit => exact nle rfl); (case hov => ((repeat (first | with_reducible exact ov_nil | apply ov_cons)); done)); (case hu => repeat (first | exact Upd.here _ _ | apply Upd.there))) | fail)
    refine v_call (μ1 := [(b1, _)]) rfl (rdNumber_s b1 _ _ (D.length : Nat) hs1 (by omega) hr1) (PickA.perm (by repeat (exact PickA.here _))) rfl ?_
    rintro _ _ _ - ⟨rfl, rfl, a2, no2, rfl, hr2⟩
    repeat' (first | apply v_seq | apply v_region | apply v_nil | (apply v_pure; (case hop => first | (apply p_move <;> rfl) | (apply p_assign <;> rfl) | (apply p_fieldAddrB <;> rfl) | (apply p_nilCheck <;> rfl) | fail); (case hd => rfl)) | (apply v_store; (case hp => rfl); (case hx => rfl); (case hc => rfl); (case hsz => rfl); (case h1 => rfl); (case hb => (repeat (first | exact mhd _ | apply mtl))); (case hfit => exact nle rfl); (case hov => ((repeat (first | with_reducible exact ov_nil | apply ov_cons)); done)); (case hu => repeat (first | exact Upd.here _ _ | apply Upd.there))) | fail)
    refine v_call (μ1 := [(b1, _)]) rfl (rdDone_s b1 _ _ hs1 (by omega) hr2) (PickA.perm (by repeat (exact PickA.here _))) rfl ?_
    rintro _ _ _ - ⟨rfl, ⟨ed, rfl, hed⟩, rfl⟩
    have qm := fun G => vmay_s G (numV 2 (some hd))
    have hh : headF (D.length : Nat) hd = (numV 2 (some hd), numV (D.length : Nat) (numS 2 (some hd)), decide (ed = 0)) := by unfold headF; simp only [← hed]
    clear hed hr0 hr1 hr2
    generalize numV (D.length : Nat) (numS 2 (some hd)) = nn at *
    generalize numV 2 (some hd) = f at *
    repeat' (first | apply v_nil | (apply v_take; (case hg => rfl)) | (apply v_pass; (case hg => rfl); (case hn => rfl); (case hd => rfl)) | (apply v_pure; (case hop => first | (apply p_move <;> rfl) | (apply p_eq <;> rfl) | (apply p_assign <;> rfl) | (apply p_pickT <;> rfl) | (apply p_pickF <;> rfl) | (apply p_fieldAddrB <;> rfl) | (apply p_nilCheck <;> rfl) | fail); (case hd => rfl)) | (apply v_guardB; (case h1 => rfl); (case h2 => rfl); all_goals (intro h; (try simp only [reduceCtorEq, zzz] at h))) | (apply v_callJ (hs := qm _); (case ha => rfl); (case hd => rfl)) | (apply v_read; (case hop => (apply r_load1; rfl; (apply Cell.own; (case h => (repeat (first | exact mhd _ | apply mtl))); rfl))); (case hd => rfl)) | fail)
    all_goals
      refine v_ret [(rb, _)] (outsA2 rfl rfl rfl) (by repeat (first | exact List.Sublist.refl _ | apply List.Sublist.cons)) ?_
      refine ⟨_, _, _, _, (by omega : D.length - t.length ≤ D.length), rfl, rfl, .inr ⟨hd, t, hn, rfl, by rw [hh], by rw [hh], ?_⟩⟩
      simp only [hh, decide_eq_true_eq]
      simp [*]
    all_goals vx_show
  · repeat' (first | apply v_seq | apply v_region | apply v_nil | (apply v_pure; (case hop => first | (apply p_move <;> rfl) | (apply p_ne <;> rfl) | (apply p_assign <;> rfl) | (apply p_extract0 <;> rfl) | (apply p_extract1 <;> rfl) | (apply p_extract2 <;> rfl) | fail); (case hd => rfl)) | (apply v_cond; (case hc => rfl); all_goals (intro h; (try simp only [reduceCtorEq, zzz] at h); first | (exfalso; omega) | skip)) | fail)
    refine v_ret [(rb, _)] (outsA2 rfl rfl rfl) (by repeat (exact List.Sublist.refl _)) ?_
    exact ⟨0, _, _, _, by omega, rfl, rfl, .inl ⟨hn, rfl⟩⟩
def NxtR (D : List Int) (rb : Nat) (sv : Value) (at_ : Nat) (f : Int) (xs : List Rc) (r : Value) (G' : GH) (μ' : OH) : Prop := ∃ (ok : Bool) (at' : Nat) (lv' : Value) (ν' : OH) (xs' : List Rc), r = .bool ok ∧ μ'.Perm ((rb, sgO sv (at' : Nat) f lv') :: ν') ∧ GrowR G' lv' xs' ν' ∧ ((ok = false ∧ at' = at_ ∧ xs' = xs ∧ (nextF (D.drop at_) = none ∨ ∃ b t, nextF (D.drop at_) = some (b, t) ∧ decF f b = none)) ∨ (ok = true ∧ ∃ b t x, nextF (D.drop at_) = some (b, t) ∧ decF f b = some x ∧ xs' = xs ++ [x] ∧ at' = D.length - t.length))
set_option maxHeartbeats 1000000 in
theorem next_s {G : GH} (hT : TabsG G) (hC : CrcG G) {D : List Int} {sv lv : Value} (rb at_ : Nat) (f : Int) {xs : List Rc} {ν : OH} (hs : Sl G 1 (IntR .u8) sv D) (hl : D.length ≤ 1048000) (ha : at_ ≤ D.length) (hx : xs.length ≤ 1048000) (hg : GrowR G lv xs ν) : Con Tryz.prog 63 #[.pointer (some ⟨rb, 0, none⟩)] G ((rb, sgO sv (at_ : Nat) f lv) :: ν) (NxtR D rb sv at_ f xs) := by
  have q1 := fnext_s hC at_ hs (by omega) ha
  have hbd := fun b r => nextF_body (l := D.drop at_) (b := b) (r := r) (fun y hy => sl_byte hs y (List.mem_of_mem_drop hy))
  unfold NxtR
  unfold NextR at q1
  obtain ⟨A, c, rfl, -⟩ := id hs.openInt
  obtain ⟨css, hcl, hcr, hgr⟩ := id hg
  obtain ⟨Ag, cg, rfl, hgl, hgm⟩ := id hgr.shape
  (refine v_enter Tryz.func63 rfl Tryz.ntmps63 rfl ?_; intro B _)
  repeat' (first | apply v_seq | apply v_region | apply v_nil | (apply v_pure; (case hop => (apply p_assign <;> rfl)); (case hd => rfl)) | fail)
  refine d_start [(rb, sgO (.slice A D.length c) (at_ : Nat) f (.slice Ag xs.length cg))] (by kernel_rfl) (by kernel_rfl) (by kernel_rfl) (by intro e he; (simp at he; simp [he]; done)) ?_
  all_goals (apply dtk 0; (case hi => rfl); (case hop => (apply prd; apply p_move <;> rfl)); (case hq => kernel_rfl))
  all_goals (apply dtk 1; (case hi => rfl); (case hop => (apply prd; apply p_nilCheck <;> rfl)); (case hq => kernel_rfl))
  all_goals (apply dtk 2; (case hi => rfl); (case hop => (apply prd; apply p_fieldAddrB <;> rfl)); (case hq => kernel_rfl))
  all_goals (apply dtk 3; (case hi => rfl); (case hop => first | (apply r_loadNo; (case hx => rfl); (case h => (repeat (fail))); (case hd => (repeat (fail))); (case hn => rfl)) | (apply r_load1; rfl; (apply Cell.own; (case h => (repeat (exact mhd _))); rfl)) | (apply r_loadN; rfl; (apply CellsAt.own; (case h => (repeat (fail)))); rfl)); (case hq => kernel_rfl))
  all_goals (apply dtk 4; (case hi => rfl); (case hop => (apply prd; apply p_move <;> rfl)); (case hq => kernel_rfl))
  all_goals (apply dtk 5; (case hi => rfl); (case hop => (apply prd; apply p_nilCheck <;> rfl)); (case hq => kernel_rfl))
  all_goals (apply dtk 6; (case hi => rfl); (case hop => (apply prd; apply p_fieldAddrB <;> rfl)); (case hq => kernel_rfl))
  all_goals (apply dtk 7; (case hi => rfl); (case hop => first | (apply r_loadNo; (case hx => rfl); (case h => (repeat (fail))); (case hd => (repeat (fail))); (case hn => rfl)) | (apply r_load1; rfl; (apply Cell.own; (case h => (repeat (exact mhd _))); rfl)) | (apply r_loadN; rfl; (apply CellsAt.own; (case h => (repeat (fail)))); rfl)); (case hq => kernel_rfl))
  all_goals ((apply d_call 8 (hs := q1) (μ1 := []); (case hi => rfl); (case hr => kernel_rfl);  (case ha => rfl); (case hp => exact List.Perm.refl _); (case hd => rfl); (case hν' => intro e he; simp at he; simp [he]); rintro _ G1 _ hle1 ⟨rfl, v, z, e, rfl, hcase⟩))
  all_goals (apply dtk 9; (case hi => rfl); (case hop => (apply prd; apply p_move <;> rfl)); (case hq => kernel_rfl))
  all_goals (apply dtk 10; (case hi => rfl); (case hop => (apply prd; apply p_extract0 <;> rfl)); (case hq => kernel_rfl))
  all_goals (apply dtk 11; (case hi => rfl); (case hop => (apply prd; apply p_extract1 <;> rfl)); (case hq => kernel_rfl))
  all_goals (apply dtk 12; (case hi => rfl); (case hop => (apply prd; apply p_extract2 <;> rfl)); (case hq => kernel_rfl))
  all_goals (apply dtk 13; (case hi => rfl); (case hop => (apply prd; apply p_assign <;> rfl)); (case hq => kernel_rfl))
  all_goals (apply dtk 14; (case hi => rfl); (case hop => (apply prd; apply p_assign <;> rfl)); (case hq => kernel_rfl))
  all_goals (apply dtk 15; (case hi => rfl); (case hop => (apply prd; apply p_assign <;> rfl)); (case hq => kernel_rfl))
  all_goals (apply d_done; (case hr => kernel_rfl))
  obtain ⟨bd, t, hn, sv1, rfl, rfl⟩ | ⟨hn, he, rfl, rfl⟩ := hcase
  rotate_left
  · repeat' (first | apply v_seq | apply v_region | apply v_nil | (apply v_pure; (case hop => first | (apply p_move <;> rfl) | (apply p_ne <;> rfl) | (apply p_assign <;> rfl) | fail); (case hd => rfl)) | (apply v_cond; (case hc => rfl); all_goals (intro h; (try simp only [reduceCtorEq, zzz] at h); first | (exfalso; omega) | skip)) | fail)
    refine v_ret _ (outsA1 rfl rfl) (List.Sublist.refl _) ?_
    exact ⟨_, at_, _, ν, xs, rfl, List.Perm.refl _, hg.le hle1, .inl ⟨rfl, rfl, rfl, .inl hn⟩⟩
  obtain ⟨A1, c1, rfl, -⟩ := id sv1.openInt
  have hbl := hbd _ _ hn
  rw [List.length_drop] at hbl
  repeat' (first | apply v_seq | apply v_region | apply v_nil | apply v_skip | (apply v_pure; (case hop => first | (apply p_move <;> rfl) | (apply p_nes <;> rfl) | (apply p_fieldAddrB <;> rfl) | (apply p_nilCheck <;> rfl) | fail); (case hd => rfl)) | (apply v_condF; (case hc => rfl)) | (apply v_read; (case hop => (apply r_load1; rfl; (apply Cell.own; (case h => (repeat (exact mhd _))); rfl))); (case hd => rfl)) | fail)
  refine v_call (μ1 := []) rfl (getF_s (hT.le hle1) f sv1 (by omega)) (List.Perm.refl _) rfl ?_
  rintro _ G2 _ hle2 ⟨rfl, x, xv, e, rfl, hxv, hcase⟩
  have hle := GH.le_trans hle1 hle2
  obtain ⟨iv, rfl, hix⟩ := id hxv
  obtain ⟨Ai, ci, hie, -⟩ := id hix.openInt
  subst hie
  obtain ⟨hd, rfl⟩ | ⟨hd, he⟩ := hcase
  rotate_left
  · repeat' (first | apply v_seq | apply v_region | apply v_nil | (apply v_pure; (case hop => first | (apply p_move <;> rfl) | (apply p_ne <;> rfl) | (apply p_assign <;> rfl) | (apply p_extract0 <;> rfl) | (apply p_extract1 <;> rfl) | fail); (case hd => rfl)) | (apply v_cond; (case hc => rfl); all_goals (intro h; (try simp only [reduceCtorEq, zzz] at h); first | (exfalso; omega) | skip)) | (apply v_alloc; (case hz => rfl); (case hd => rfl); intro b) | (apply v_store; (case hp => rfl); (case hx => rfl); (case hc => rfl); (case hsz => rfl); (case h1 => rfl); (case hb => (repeat (exact mhd _))); (case hfit => exact nle rfl); (case hov => ((repeat (first | with_reducible exact ov_nil | apply ov_cons)); done)); (case hu => repeat (exact Upd.here _ _))) | fail)
    all_goals first
      | (exfalso; omega)
      | (refine v_ret ((rb, sgO _ _ _ _) :: ν) (outsA1 rfl rfl) (by repeat (first | exact List.Sublist.refl _ | apply List.Sublist.cons)) ?_
         exact ⟨_, at_, _, ν, xs, rfl, List.Perm.refl _, hg.le hle, .inl ⟨rfl, rfl, rfl, .inr ⟨bd, t, hn, hd⟩⟩⟩)
  obtain ⟨-, -, -, hco, hsm⟩ := decF_inv (fun y hy => sl_byte sv1 y hy) hd
  repeat' (first | apply v_seq | apply v_region | apply v_nil | apply v_skip | (apply v_pure; (case hop => first | (apply p_move <;> rfl) | (apply p_nes <;> rfl) | (apply p_assign <;> rfl) | (apply p_extract0 <;> rfl) | (apply p_extract1 <;> rfl) | fail); (case hd => rfl)) | (apply v_condF; (case hc => rfl)) | (apply v_alloc; (case hz => rfl); (case hd => rfl); intro b) | (apply v_store; (case hp => rfl); (case hx => rfl); (case hc => rfl); (case hsz => rfl); (case h1 => rfl); (case hb => (repeat (exact mhd _))); (case hfit => exact nle rfl); (case hov => ((repeat (first | with_reducible exact ov_nil | apply ov_cons)); done)); (case hu => repeat (exact Upd.here _ _))) | fail)
  revert b
  intro xb
  refine d_start [(xb, .cells #[.int .i64 x.kind, .int .i64 x.round, .int .i64 x.node, .int .i64 x.index, .int .i64 x.cmd.kind, .int .i64 x.cmd.client, .int .i64 x.cmd.seq, .string x.cmd.key, .string x.cmd.val, .string x.cmd.old, .int .i64 x.cmd.node, .slice Ai x.image.length ci] 42 (0, 0))] (by kernel_rfl) (by kernel_rfl) (by kernel_rfl) (by intro e he; (simp at he; simp [he]; done)) ?_
  all_goals (apply dtk 0; (case hi => rfl); (case hop => (apply prd; apply p_move <;> rfl)); (case hq => kernel_rfl))
  all_goals (apply dtk 1; (case hi => rfl); (case hop => (apply prd; apply p_move <;> rfl)); (case hq => kernel_rfl))
  all_goals (apply dtk 2; (case hi => rfl); (case hop => (apply prd; apply p_nilCheck <;> rfl)); (case hq => kernel_rfl))
  all_goals (apply dtk 3; (case hi => rfl); (case hop => (apply prd; apply p_fieldAddrB <;> rfl)); (case hq => kernel_rfl))
  all_goals (apply dtk 5; (case hi => rfl); (case hop => first | (apply r_loadNo; (case hx => rfl); (case h => (repeat (exact mhd _))); (case hd => (repeat (first | with_reducible exact dt_nil | apply dt_here))); (case hn => rfl)) | (apply r_load1; rfl; (apply Cell.own; (case h => (repeat (fail))); rfl)) | (apply r_loadN; rfl; (apply CellsAt.own; (case h => (repeat (fail)))); rfl)); (case hq => kernel_rfl))
  focus
    refine d_fork 4 6 (by kernel_rfl) ?_ ?_
    rotate_right
    focus
      (apply x_buildSlice 6; (case hi => rfl); (case hT => infer_instance); (case hL => infer_instance); (case hz => rfl); (case hl => rfl); (case hv => (simp only [List.map_cons, List.map_nil]; repeat (first | with_reducible exact evs_nil | (apply evs_cons; (case h1 => rfl))))); (case hp => (apply pk_cons; (case hc => rfl); (case hs => rfl); (case h => (with_reducible exact pk_nil)); (case he => ((repeat (first | with_reducible exact ap_nil | apply ap_cons)); done)))); (case hb => rfl); (case hd => rfl); (case hν => intro e he; (simp at he; simp [he]; done)); intro bb)
      all_goals (apply d_keep 4 (hop := ReadOp.move ?hop); (case hi => rfl); (case hr => kernel_rfl); (case hop => (apply r_load1; rfl; (apply Cell.own; (case h => repeat (first | exact mhd _ | apply mtl)); rfl))); (case hd => rfl))
      all_goals (apply d_append 7 (hg := hgr) (q' := 1) (us := recL x.kind x.round x.node x.index x.cmd (.slice Ai x.image.length ci)) (hp := PickA.perm (by repeat (first | exact PickA.last | apply PickA.cons))) (hsrc := Src.own (e := 42) (by repeat (exact mhd _)) rfl); (case hi => rfl); (case hr => kernel_rfl); (case hT => infer_instance); (case hL => infer_instance); (case hzs => rfl); (case hsz => omega); (case hs => rfl); (case hx => rfl); (case hb => omega); (case hb' => simp only [maxLen]; omega); (case hd => rfl); (case h1 => rfl); (case hν => intro e he; (simp at he; simp [he]; done)); intro v3 n3 hg3; obtain ⟨A3, c3, rfl, -, -⟩ := hg3.shape)
      all_goals (apply dtk 8; (case hi => rfl); (case hop => (apply prd; apply p_nilCheck <;> rfl)); (case hq => kernel_rfl))
      all_goals (apply dtk 9; (case hi => rfl); (case hop => (apply prd; apply p_fieldAddrB <;> rfl)); (case hq => kernel_rfl))
      all_goals (apply d_store 10; (case hi => rfl); (case hr => kernel_rfl); (case hL => infer_instance); (case hp => rfl); (case hx => rfl); (case hc => rfl); (case hsz => rfl); (case h1 => rfl); (case hb => (repeat (first | exact mhd _ | apply mtl | apply List.mem_append_right))); (case hfit => exact nle rfl); (case hov => ((repeat (first | with_reducible exact ov_nil | apply ov_cons)); done)); (case hu => repeat (first | exact Upd.here _ _ | apply Upd.there | apply Upd.app)); (case hν' => intro e he; (simp at he; simp [he]; done)))
      all_goals (apply d_done; (case hr => kernel_rfl))
    rotate_right
    focus
      (apply x_exec 4; (case hi => rfl);  (case hop => exact ReadOp.move (r_load1 rfl (Cell.own (by repeat (first | exact mhd _ | apply mtl)) rfl))); (case hd => rfl); rintro _ G0 _ ⟨rfl, hG0, rfl⟩; subst G0; refine ⟨(by intro e he; simp at he; simp [he]), ?_⟩)
      all_goals (apply d_buildSlice 6; (case hi => rfl); (case hr => kernel_rfl); (case hT => infer_instance); (case hL => infer_instance); (case hz => rfl); (case hl => rfl); (case hv => (simp only [List.map_cons, List.map_nil]; repeat (first | with_reducible exact evs_nil | (apply evs_cons; (case h1 => rfl))))); (case hp => (apply pk_cons; (case hc => rfl); (case hs => rfl); (case h => (with_reducible exact pk_nil)); (case he => ((repeat (first | with_reducible exact ap_nil | apply ap_cons)); done)))); (case hb => rfl); (case hd => rfl); (case hν => intro e he; (simp at he; simp [he]; done)); intro bb)
      all_goals (apply d_append 7 (hg := hgr) (q' := 1) (us := recL x.kind x.round x.node x.index x.cmd (.slice Ai x.image.length ci)) (hp := PickA.perm (by repeat (first | exact PickA.last | apply PickA.cons))) (hsrc := Src.own (e := 42) (by repeat (exact mhd _)) rfl); (case hi => rfl); (case hr => kernel_rfl); (case hT => infer_instance); (case hL => infer_instance); (case hzs => rfl); (case hsz => omega); (case hs => rfl); (case hx => rfl); (case hb => omega); (case hb' => simp only [maxLen]; omega); (case hd => rfl); (case h1 => rfl); (case hν => intro e he; (simp at he; simp [he]; done)); intro v3 n3 hg3; obtain ⟨A3, c3, rfl, -, -⟩ := hg3.shape)
      all_goals (apply dtk 8; (case hi => rfl); (case hop => (apply prd; apply p_nilCheck <;> rfl)); (case hq => kernel_rfl))
      all_goals (apply dtk 9; (case hi => rfl); (case hop => (apply prd; apply p_fieldAddrB <;> rfl)); (case hq => kernel_rfl))
      all_goals (apply d_store 10; (case hi => rfl); (case hr => kernel_rfl); (case hL => infer_instance); (case hp => rfl); (case hx => rfl); (case hc => rfl); (case hsz => rfl); (case h1 => rfl); (case hb => (repeat (first | exact mhd _ | apply mtl | apply List.mem_append_right))); (case hfit => exact nle rfl); (case hov => ((repeat (first | with_reducible exact ov_nil | apply ov_cons)); done)); (case hu => repeat (first | exact Upd.here _ _ | apply Upd.there | apply Upd.app)); (case hν' => intro e he; (simp at he; simp [he]; done)))
      all_goals (apply d_done; (case hr => kernel_rfl))
  all_goals
    repeat' (first | apply v_seq | apply v_region | apply v_nil | (apply v_pure; (case hop => first | (apply p_move <;> rfl) | (apply p_assign <;> rfl) | (apply p_fieldAddrB <;> rfl) | (apply p_nilCheck <;> rfl) | fail); (case hd => rfl)) | (apply v_store; (case hp => rfl); (case hx => rfl); (case hc => rfl); (case hsz => rfl); (case h1 => rfl); (case hb => (repeat (first | exact mhd _ | apply mtl | apply List.mem_append_right))); (case hfit => exact nle rfl); (case hov => ((repeat (first | with_reducible exact ov_nil | apply ov_cons)); done)); (case hu => repeat (first | exact Upd.here _ _ | apply Upd.there | apply Upd.app))) | fail)
    refine v_ret (n3 ++ [(rb, sgO (.slice A D.length c) ((D.length - t.length : Nat) : Int) f (.slice A3 (xs.length + 1) c3))]) (outsA1 rfl rfl) (List.Sublist.append_left (by repeat (first | exact List.Sublist.refl _ | apply List.Sublist.cons)) _) ?_
    exact ⟨_, D.length - t.length, _, n3, xs ++ [x], rfl, List.perm_append_singleton _ _, GrowR.snoc hcl (fun i y cs h1 h2 => (hcr i y cs h1 h2).le hle) hg3 ⟨_, rfl, hco, hsm, hix⟩, .inr ⟨rfl, bd, t, x, hn, hd, rfl, rfl⟩⟩
theorem more_s {G : GH} {D : List Int} {sv lv : Value} (rb ib pb at_ : Nat) (f : Int) {xs : List Rc} {ν : OH} (is : Bool) (q : Con Tryz.prog 63 #[.pointer (some ⟨rb, 0, none⟩)] G ((rb, sgO sv (at_ : Nat) f lv) :: ν) (NxtR D rb sv at_ f xs)) :
    Con Tryz.prog 62 #[.pointer (some ⟨ib, 0, none⟩), .pointer (some ⟨pb, 0, none⟩)] G ([(ib, .cells #[.bool is] 4 (0, 0)), (pb, .cells #[.pointer (some ⟨rb, 0, none⟩)] 104 (0, 0))] ++ (rb, sgO sv (at_ : Nat) f lv) :: ν) (fun r G' μ' => ∃ ν', μ'.Perm ([(ib, .cells #[.bool is] 4 (0, 0)), (pb, .cells #[.pointer (some ⟨rb, 0, none⟩)] 104 (0, 0))] ++ ν') ∧ ((is = false ∧ r = .bool false ∧ G' = G ∧ ν' = (rb, sgO sv (at_ : Nat) f lv) :: ν) ∨ (is = true ∧ NxtR D rb sv at_ f xs r G' ν'))) := by
  (refine v_enter Tryz.func62 rfl Tryz.ntmps62 rfl ?_; intro B _)
  cases is
  · repeat' (first | apply v_seq | apply v_region | apply v_nil | (apply v_pass; (case hg => rfl); (case hn => rfl); (case hd => rfl)) | (apply v_pure; (case hop => first | (apply p_move <;> rfl) | (apply p_assign <;> rfl) | (apply p_pickF <;> rfl) | fail); (case hd => rfl)) | (apply v_read; (case hop => (apply r_load1; rfl; (apply Cell.own; (case h => (repeat (exact mhd _))); rfl))); (case hd => rfl)) | fail)
    exact v_ret _ (outsA1 rfl rfl) (List.Sublist.refl _) ⟨_, List.Perm.refl _, .inl ⟨rfl, rfl, rfl, rfl⟩⟩
  · repeat' (first | apply v_seq | apply v_region | apply v_nil | (apply v_take; (case hg => rfl)) | (apply v_pure; (case hop => first | (apply p_move <;> rfl) | (apply p_assign <;> rfl) | fail); (case hd => rfl)) | (apply v_read; (case hop => (apply r_load1; rfl; (apply Cell.own; (case h => (repeat (first | exact mhd _ | apply mtl))); rfl))); (case hd => rfl)) | fail)
    refine v_call (μ1 := (rb, sgO sv (at_ : Nat) f lv) :: ν) rfl q List.perm_append_comm rfl ?_
    rintro _ G1 ν1 - ⟨ok, at', lv', ν', xs', rfl, hp, hg, hc⟩
    repeat' (first | apply v_nil | (apply v_pure; (case hop => first | (apply p_assign <;> rfl) | (apply p_pickT <;> rfl) | fail); (case hd => rfl)) | fail)
    exact v_ret _ (outsA1 rfl rfl) (List.Sublist.refl _) ⟨ν1, List.perm_append_comm, .inr ⟨rfl, ok, at', lv', ν', xs', rfl, hp, hg, hc⟩⟩
section
attribute [local semireducible] Vc DVc Con PureOp ReadOp MoveOp
theorem d_fork3 {P : Program} {fn : Func} {n : Nat} {B : Base} {Φ : Value → GH → OH → Prop} {k : List It} {σ : Env} {G G0 : GH} {μ : OH} {all : Array Oper} {m : Nat} {listed : Array Bool} {ν : OH} (i j l : Nat) (hr : Region.ready .any all listed = [i, j, l]) (h1 : DX P fn n B Φ all G0 ν m listed k σ G μ i) (h2 : DX P fn n B Φ all G0 ν m listed k σ G μ j) (h3 : DX P fn n B Φ all G0 ν m listed k σ G μ l) : DVc P fn n B Φ all G0 ν (m + 1) listed k σ G μ := by
  intro hsel hle hν w hw a ha
  refine wpAnyH_all hr (by simp) fun x hx => ?_
  simp only [List.mem_cons, List.mem_singleton, List.not_mem_nil, or_false] at hx
  obtain rfl | rfl | rfl := hx
  · exact h1 hsel hle hν w hw a ha
  · exact h2 hsel hle hν w hw a ha
  · exact h3 hsel hle hν w hw a ha
end
end Go.Proofs.YtpemabgfmnhhnaaGreatDoor
/-
  segm.Read.
-/
set_option linter.unusedSimpArgs false
set_option linter.unusedVariables false
namespace Go.Proofs.YtpemabgfmnhhnaaGreatDoor
open Go.Vx Go.ChangeShapes Go.WideShapes Go.ChangeAt Go.RowKit
section
variable {α : Type} (dec : List Int → Option α)
theorem recsF_step {D : Nat} {l b t : List Int} {x : α} (hw : byteL l) (hl : l.length ≤ D) (h : nextF l = some (b, t)) (hd : dec b = some x) : recsF dec D l = (x :: (recsF dec D t).1, (recsF dec D t).2) := by
  obtain ⟨e, -⟩ := nextF_inv hw h
  have h1 := congrArg List.length e
  have h2 := frB_pos b
  rw [List.length_append] at h1
  obtain ⟨n, rfl⟩ : ∃ n, D = n + 1 := ⟨D - 1, by omega⟩
  have hr : byteL t := fun y hy => hw y (by rw [e]; exact List.mem_append_right _ hy)
  rw [recsF_some dec h hd, recsF_fuel dec n (n + 1) t hr (by omega) (by omega)]
end
theorem next_drop {D b t : List Int} {a : Nat} (hw : byteL D) (h : nextF (D.drop a) = some (b, t)) : t = D.drop (D.length - t.length) ∧ D.length - t.length ≤ D.length ∧ t.length < D.length - a := by
  obtain ⟨e, -⟩ := nextF_inv (fun y hy => hw y (List.mem_of_mem_drop hy)) h
  have h1 := congrArg List.length e
  have h2 := frB_pos b
  rw [List.length_append, List.length_drop] at h1
  refine ⟨?_, by omega, by omega⟩
  have h3 : (D.drop a).drop (frB b).length = t := by rw [e, List.drop_left]
  rw [List.drop_drop] at h3
  rw [show D.length - t.length = a + (frB b).length by omega]
  exact h3.symm
def ctL (f : Int) (L : List Value) (k b : Int) : List Value := .int .i64 f :: (L ++ [.int .i64 k, .int .i64 b])
def ReadR (D : List Int) (r : Value) (G' : GH) (μ' : OH) : Prop := μ' = [] ∧ ((readF decF D = none ∧ r = .tuple [.agg (ctL 0 (hdL 0 0 0 (.slice none 0 0) (.slice none 0 0) (.slice none 0 0)) 0 0).toArray, .int .i64 17].toArray) ∨ ∃ f xs k L, readF decF D = some (f, xs, k) ∧ r = .tuple [.agg (ctL f L (xs.length : Nat) (k : Nat)).toArray, .int .i64 0].toArray ∧ HdV G' (hardOf xs) L)
set_option maxHeartbeats 1000000 in
theorem sread_s {G : GH} (hT : TabsG G) (hC : CrcG G) {D : List Int} {sv : Value} (hs : Sl G 1 (IntR .u8) sv D) (hl : D.length ≤ 1048000) (hfew : ∀ f xs k, readF decF D = some (f, xs, k) → xs.length ≤ 200) : Con Tryz.prog 21 #[sv] G [] (ReadR D) := by
  have hw : byteL D := fun y hy => sl_byte hs y hy
  obtain ⟨A, c, rfl, -⟩ := id hs.openInt
  (refine v_enter Tryz.func21 rfl Tryz.ntmps21 rfl ?_; intro B _)
  repeat' (first | apply v_seq | apply v_region | apply v_nil | (apply v_pure; (case hop => first | (apply p_move <;> rfl) | (apply p_assign <;> rfl) | (apply p_build; (case hz => rfl); (case hv => (simp only [List.map_cons, List.map_nil]; repeat (first | with_reducible exact evs_nil | (apply evs_cons; (case h1 => rfl))))); (case hb => (apply bldL; repeat (first | exact bld_nil | (apply bld_cons; (case hpf => rfl); (case hc => rfl); (case hs => rfl); (case hl => rfl); (case ho => ((repeat (first | with_reducible exact ov_nil | apply ov_cons)); done))))))) | fail); (case hd => rfl)) | (apply v_read; (case hop => (apply r_load1; rfl; (apply Cell.own; (case h => (repeat (exact mhd _))); rfl))); (case hd => rfl)) | (apply v_alloc; (case hz => rfl); (case hd => rfl); intro b) | (apply v_box; (case hx => rfl); (case hz => rfl); (case hd => rfl); intro b) | (apply v_store; (case hp => rfl); (case hx => rfl); (case hc => rfl); (case hsz => rfl); (case h1 => rfl); (case hb => (repeat (exact mhd _))); (case hfit => exact nle rfl); (case hov => ((repeat (first | with_reducible exact ov_nil | apply ov_cons)); done)); (case hu => repeat (exact Upd.here _ _))) | fail)
  rename_i cb rb
  revert b
  intro pb
  refine v_call (μ1 := [(rb, sgO (.slice A D.length c) 0 0 (.slice none 0 0))]) rfl (begin_s hC rb hs hl) (PickA.perm (by repeat (first | exact PickA.here _ | apply PickA.cons))) rfl ?_
  rintro _ G1 _ hle1 ⟨a0, f, n, is, ha0, rfl, rfl, hbeg⟩
  have hbeg' : is = true → ∃ hd, nextF D = some (hd, D.drop a0) ∧ f = (headF D.length hd).1 ∧ n = (headF D.length hd).2.1 ∧ (headF D.length hd).2.2 = true ∧ ((headF D.length hd).1 = 1 ∨ (headF D.length hd).1 = 2) := fun his => by
    obtain ⟨-, h⟩ | ⟨hd, t, hn, h1, h2, h3, h4⟩ := hbeg
    · rw [his] at h; cases h
    · obtain ⟨h5, -, -⟩ := next_drop (D := D) (a := 0) hw (by rw [List.drop_zero]; exact hn)
      rw [← h1] at h5
      rw [his] at h4
      have := of_decide_eq_true h4.symm
      exact ⟨hd, by rw [← h5]; exact hn, h2, h3, this.1, this.2⟩
  have hno : is = false → readF decF D = none := fun his => by
    obtain ⟨hn, -⟩ | ⟨hd, t, hn, h1, h2, h3, h4⟩ := hbeg
    · exact readF_none decF hn
    · rw [his] at h4
      have := of_decide_eq_false h4.symm
      rw [readF_some decF hn, if_neg fun h => this ⟨h.1, h.2.1⟩]
  repeat' (first | apply v_seq | apply v_region | apply v_nil | apply v_block | (apply v_pure; (case hop => first | (apply p_move <;> rfl) | (apply p_assign <;> rfl) | (apply p_extract0 <;> rfl) | (apply p_extract1 <;> rfl) | (apply p_makeFunc <;> rfl) | fail); (case hd => rfl)) | (apply v_alloc; (case hz => rfl); (case hd => rfl); intro b) | (apply v_store; (case hp => rfl); (case hx => rfl); (case hc => rfl); (case hsz => rfl); (case h1 => rfl); (case hb => (repeat (exact mhd _))); (case hfit => exact nle rfl); (case hov => ((repeat (first | with_reducible exact ov_nil | apply ov_cons)); done)); (case hu => repeat (exact Upd.here _ _))) | fail)
  revert b
  intro ib
  refine v_perm (ν := ([(ib, .cells #[.bool is] 4 (0, 0)), (pb, .cells #[.pointer (some ⟨rb, 0, none⟩)] 104 (0, 0))] ++ (rb, sgO (.slice A D.length c) (a0 : Nat) f (.slice none 0 0)) :: []) ++ [(cb, .cells (ctL 0 (hdL 0 0 0 (.slice none 0 0) (.slice none 0 0) (.slice none 0 0)) 0 0).toArray 50 (0, 0))]) (by apply perm_of_count; intro p; simp only [List.append_eq, List.countP_append, List.countP_cons, List.countP_nil, Nat.zero_add, Nat.add_zero]; try ac_rfl) ?_
  refine v_loopI (ι := Nat) [7, 6, 5, 4, 2] (fun a us G' μ' => GH.le G1 G' ∧ a ≤ D.length ∧ ∃ (lv : Value) (xs : List Rc) (ν : OH), us = [.func (.func 62) #[] #[.pointer (some ⟨ib, 0, none⟩), .pointer (some ⟨pb, 0, none⟩)], .pointer (some ⟨ib, 0, none⟩), .int .i64 n, .pointer (some ⟨pb, 0, none⟩), .pointer (some ⟨cb, 0, none⟩)] ∧ μ' = ([(ib, .cells #[.bool is] 4 (0, 0)), (pb, .cells #[.pointer (some ⟨rb, 0, none⟩)] 104 (0, 0))] ++ (rb, sgO (.slice A D.length c) (a : Nat) f lv) :: ν) ++ [(cb, .cells (ctL 0 (hdL 0 0 0 (.slice none 0 0) (.slice none 0 0) (.slice none 0 0)) 0 0).toArray 50 (0, 0))] ∧ GrowR G' lv xs ν ∧ xs.length ≤ a ∧ recsF (decF f) D.length (D.drop a0) = (xs ++ (recsF (decF f) D.length (D.drop a)).1, (recsF (decF f) D.length (D.drop a)).2)) (fun a => D.length - a) rfl a0 ⟨GH.le_refl _, ha0, _, [], [], rfl, rfl, GrowR.none _, Nat.zero_le _, rfl⟩ ?_
  rintro a us G' μ' ⟨hle, ha, lv, xs, ν, rfl, rfl, hg, hxa, hrec⟩
  have hle' := GH.le_trans hle1 hle
  have q := more_s rb ib pb a f is (next_s (hT.le hle') (hC.le hle') rb a f (hs.mono hle') hl ha (by omega) hg)
  obtain ⟨Ag, cg, rfl, -, -⟩ : ∃ A c, lv = .slice A xs.length c ∧ True ∧ True := by
    obtain ⟨css, -, -, hgr⟩ := id hg
    obtain ⟨A, c, h, -⟩ := hgr.shape
    exact ⟨A, c, h, trivial, trivial⟩
  repeat' (first | apply v_seq | apply v_region | (apply v_pure; (case hop => (apply p_move <;> rfl)); (case hd => rfl)) | fail)
  refine v_callC (first := []) (captured := [.pointer (some ⟨ib, 0, none⟩), .pointer (some ⟨pb, 0, none⟩)]) (vs := []) rfl rfl q (List.Perm.refl _) rfl ?_
  rintro r G2 ν2 hle2 ⟨ν3, hp, hcase⟩
  refine v_perm (hp.append_right _) ?_
  obtain ⟨his, rfl, hG2, rfl⟩ | ⟨his, ok, a', lv', ν', xs', rfl, hp', hg', ⟨rfl, rfl, rfl, hend⟩ | ⟨rfl, bd, t, x, hn, hd, rfl, rfl⟩⟩ := hcase
  · have hnone := hno his
    subst his
    repeat' (first | apply v_seq | apply v_region | apply v_nil | (apply v_exit; (case hp => rfl)) | (apply v_pass; (case hg => rfl); (case hn => rfl); (case hd => rfl)) | (apply v_pure; (case hop => first | (apply p_move <;> rfl) | (apply p_assign <;> rfl) | (apply p_pickT <;> rfl) | (apply p_not <;> rfl) | (apply p_build; (case hz => rfl); (case hv => (simp only [List.map_cons, List.map_nil]; repeat (with_reducible exact evs_nil))); (case hb => (apply bldL; repeat (exact bld_nil)))) | fail); (case hd => rfl)) | (apply v_condT; (case hc => rfl)) | (apply v_condF; (case hc => rfl)) | (apply v_read; (case hop => (apply r_load1; rfl; (apply Cell.own; (case h => (repeat (exact mhd _))); rfl))); (case hd => rfl)) | (apply v_store; (case hp => rfl); (case hx => rfl); (case hc => rfl); (case hsz => rfl); (case h1 => rfl); (case hb => (repeat (first | exact mhd _ | apply mtl | apply List.mem_append_right))); (case hfit => exact nle rfl); (case hov => ((repeat (first | with_reducible exact ov_nil | apply ov_cons)); done)); (case hu => repeat (first | exact Upd.here _ _ | apply Upd.there | apply Upd.app))) | fail)
    refine v_retM [] (outsM_cell_tmp (vs := ctL 0 (hdL 0 0 0 (.slice none 0 0) (.slice none 0 0) (.slice none 0 0)) 0 0) (e := 50) rfl rfl rfl (by repeat (first | exact mhd _ | apply mtl | apply List.mem_append_right)) rfl) (by repeat (exact List.nil_sublist _)) ?_
    exact ⟨rfl, .inl ⟨hnone, rfl⟩⟩
  · obtain ⟨hd, hnx, hf, hn, hh1, hh2⟩ := hbeg' his
    subst his
    have hstop : recsF (decF f) D.length (D.drop a') = ([], D.drop a') := by
      obtain h | ⟨bd, t, h, h'⟩ := hend
      · exact recsF_none (decF f) h
      · exact recsF_bad (decF f) h h'
    rw [hstop, List.append_nil] at hrec
    have hR : readF decF D = if n ≤ (xs'.length : Int) then some (f, xs', a') else none := by
      rw [readF_some decF hnx, ← hf, hrec]
      simp only [hh1, true_and, ← hn]
      have hl2 : D.length - (D.drop a').length = a' := by rw [List.length_drop]; omega
      rw [hl2]
      by_cases h : n ≤ (xs'.length : Int)
      · rw [if_pos h, if_pos ⟨by rw [hf]; exact hh2, h⟩]
      · rw [if_neg h, if_neg fun hh => h hh.2]
    refine v_perm ((hp'.append_left _).append_right _) ?_
    obtain ⟨Ag, cg, rfl, -, -⟩ : ∃ A c, lv' = .slice A xs'.length c ∧ True ∧ True := by
      obtain ⟨css, -, -, hgr⟩ := id hg'
      obtain ⟨A, c, h, -⟩ := hgr.shape
      exact ⟨A, c, h, trivial, trivial⟩
    repeat' (first | apply v_seq | apply v_region | apply v_nil | apply v_skip | (apply v_exit; (case hp => rfl)) | (apply v_take; (case hg => rfl)) | (apply v_pure; (case hop => first | (apply p_move <;> rfl) | (apply p_lt <;> rfl) | (apply p_assign <;> rfl) | (apply p_pickF <;> rfl) | (apply p_not <;> rfl) | (apply p_lenSlice <;> rfl) | (apply p_fieldAddrB <;> rfl) | (apply p_nilCheck <;> rfl) | (apply p_build; (case hz => rfl); (case hv => (simp only [List.map_cons, List.map_nil]; repeat (with_reducible exact evs_nil))); (case hb => (apply bldL; repeat (exact bld_nil)))) | fail); (case hd => rfl)) | (apply v_condF; (case hc => rfl)) | (apply v_cond; (case hc => rfl); all_goals (intro h; (try simp only [reduceCtorEq, zzz] at h))) | (apply v_read; (case hop => (apply r_load1; rfl; (apply Cell.own; (case h => (repeat (first | exact mhd _ | apply mtl))); rfl))); (case hd => rfl)) | (apply v_store; (case hp => rfl); (case hx => rfl); (case hc => rfl); (case hsz => rfl); (case h1 => rfl); (case hb => (repeat (first | exact mhd _ | apply mtl | apply List.mem_append_right))); (case hfit => exact nle rfl); (case hov => ((repeat (first | with_reducible exact ov_nil | apply ov_cons)); done)); (case hu => repeat (first | exact Upd.here _ _ | apply Upd.there | apply Upd.app))) | fail)
    · refine v_retM [] (outsM_cell_tmp (vs := ctL 0 (hdL 0 0 0 (.slice none 0 0) (.slice none 0 0) (.slice none 0 0)) 0 0) (e := 50) rfl rfl rfl (by repeat (first | exact mhd _ | apply mtl | apply List.mem_append_right)) rfl) (by repeat (exact List.nil_sublist _)) ?_
      exact ⟨rfl, .inl ⟨by rw [hR, if_neg (by omega)], rfl⟩⟩
    · have hR' : readF decF D = some (f, xs', a') := by rw [hR, if_pos (by omega)]
      have h200 := hfew _ _ _ hR'
      refine v_frz ν' (by repeat (first | exact PickA.here _ | apply PickA.cons)) ?_
      intro G3 hle3 hG3
      have hrs := hg'.rs hle3 hG3
      have qo := of_s (hT.le (GH.le_trans (GH.le_trans hle' hle2) hle3)) hrs h200
      refine d_start [(pb, .cells #[.pointer (some ⟨rb, 0, none⟩)] 104 (0, 0))] (by kernel_rfl) (by kernel_rfl) (by kernel_rfl) (by intro e he; (simp at he; simp [he]; done)) ?_
      all_goals (apply dtk 0; (case hi => rfl); (case hop => first | (apply r_loadNo; (case hx => rfl); (case h => (repeat (fail))); (case hd => (repeat (fail))); (case hn => rfl)) | (apply r_load1; rfl; (apply Cell.own; (case h => (repeat (exact mhd _))); rfl)) | (apply r_loadN; rfl; (apply CellsAt.own; (case h => (repeat (fail)))); rfl)); (case hq => kernel_rfl))
      all_goals (apply dtk 1; (case hi => rfl); (case hop => first | (apply r_loadNo; (case hx => rfl); (case h => (repeat (fail))); (case hd => (repeat (fail))); (case hn => rfl)) | (apply r_load1; rfl; (apply Cell.own; (case h => (repeat (exact mhd _))); rfl)) | (apply r_loadN; rfl; (apply CellsAt.own; (case h => (repeat (fail)))); rfl)); (case hq => kernel_rfl))
      all_goals (apply dtk 2; (case hi => rfl); (case hop => first | (apply r_loadNo; (case hx => rfl); (case h => (repeat (fail))); (case hd => (repeat (fail))); (case hn => rfl)) | (apply r_load1; rfl; (apply Cell.own; (case h => (repeat (exact mhd _))); rfl)) | (apply r_loadN; rfl; (apply CellsAt.own; (case h => (repeat (fail)))); rfl)); (case hq => kernel_rfl))
      all_goals (apply dtk 3; (case hi => rfl); (case hop => first | (apply r_loadNo; (case hx => rfl); (case h => (repeat (fail))); (case hd => (repeat (fail))); (case hn => rfl)) | (apply r_load1; rfl; (apply Cell.own; (case h => (repeat (exact mhd _))); rfl)) | (apply r_loadN; rfl; (apply CellsAt.own; (case h => (repeat (fail)))); rfl)); (case hq => kernel_rfl))
      all_goals (apply dtk 4; (case hi => rfl); (case hop => (apply prd; apply p_nilCheck <;> rfl)); (case hq => kernel_rfl))
      all_goals (apply dtk 5; (case hi => rfl); (case hop => (apply prd; apply p_fieldAddrB <;> rfl)); (case hq => kernel_rfl))
      all_goals (apply dtk 8; (case hi => rfl); (case hop => first | (apply r_loadNo; (case hx => rfl); (case h => (repeat (fail))); (case hd => (repeat (fail))); (case hn => rfl)) | (apply r_load1; rfl; (apply Cell.own; (case h => (repeat (exact mhd _))); rfl)) | (apply r_loadN; rfl; (apply CellsAt.own; (case h => (repeat (fail)))); rfl)); (case hq => kernel_rfl))
      all_goals (apply dtk 9; (case hi => rfl); (case hop => (apply prd; apply p_nilCheck <;> rfl)); (case hq => kernel_rfl))
      all_goals (apply dtk 10; (case hi => rfl); (case hop => (apply prd; apply p_fieldAddrB <;> rfl)); (case hq => kernel_rfl))
      all_goals (apply dtk 13; (case hi => rfl); (case hop => first | (apply r_loadNo; (case hx => rfl); (case h => (repeat (fail))); (case hd => (repeat (fail))); (case hn => rfl)) | (apply r_load1; rfl; (apply Cell.own; (case h => (repeat (exact mhd _))); rfl)) | (apply r_loadN; rfl; (apply CellsAt.own; (case h => (repeat (fail)))); rfl)); (case hq => kernel_rfl))
      all_goals (apply dtk 14; (case hi => rfl); (case hop => (apply prd; apply p_nilCheck <;> rfl)); (case hq => kernel_rfl))
      all_goals (apply dtk 15; (case hi => rfl); (case hop => (apply prd; apply p_fieldAddrB <;> rfl)); (case hq => kernel_rfl))
      focus
        refine d_fork3 6 11 16 (by kernel_rfl) ?_ ?_ ?_
        rotate_right
        focus
          (apply x_exec 16; (case hi => rfl);  (case hop => exact ReadOp.move (r_load1 rfl (Cell.own (by repeat (first | exact mhd _ | apply mtl)) rfl))); (case hd => rfl); rintro _ G0 _ ⟨rfl, hG0, rfl⟩; subst G0; refine ⟨(by intro e he; simp at he; simp [he]), ?_⟩)
          focus
            refine d_fork 6 11 (by kernel_rfl) ?_ ?_
            rotate_right
            focus
              (apply x_exec 11; (case hi => rfl);  (case hop => exact ReadOp.move (r_load1 rfl (Cell.own (by repeat (first | exact mhd _ | apply mtl)) rfl))); (case hd => rfl); rintro _ G0 _ ⟨rfl, hG0, rfl⟩; subst G0; refine ⟨(by intro e he; simp at he; simp [he]), ?_⟩)
              all_goals (apply dtk 12; (case hi => rfl); (case hop => (apply prd; apply p_lenSlice <;> rfl)); (case hq => kernel_rfl))
              all_goals (apply d_keep 6 (hop := ReadOp.move ?hop); (case hi => rfl); (case hr => kernel_rfl); (case hop => (apply r_load1; rfl; (apply Cell.own; (case h => repeat (first | exact mhd _ | apply mtl)); rfl))); (case hd => rfl))
              all_goals ((apply d_call 7 (hs := qo) (μ1 := []); (case hi => rfl); (case hr => kernel_rfl);  (case ha => rfl); (case hp => exact List.Perm.refl _); (case hd => rfl); (case hν' => intro e he; simp at he; simp [he]); rintro _ G4 _ hle4 ⟨rfl, L, rfl, iv, av, cv, rfl, hi, hac, hch⟩; obtain ⟨B0, d0, rfl, -⟩ := id hi.openInt; obtain ⟨B1, d1, rfl, -⟩ := id hac.open; obtain ⟨B2, d2, rfl, -⟩ := id hch.open))
              all_goals (apply dtk 17; (case hi => rfl); (case hop => (apply prd; apply p_nilCheck <;> rfl)); (case hq => kernel_rfl))
              all_goals (apply dtk 18; (case hi => rfl); (case hop => (apply prd; apply p_fieldAddrB <;> rfl)); (case hq => kernel_rfl))
              all_goals (apply dtk 19; (case hi => rfl); (case hop => (apply prd; apply p_fieldAddrB <;> rfl)); (case hq => kernel_rfl))
              all_goals (apply d_store 20; (case hi => rfl); (case hr => kernel_rfl); (case hL => infer_instance); (case hp => rfl); (case hx => rfl); (case hc => rfl); (case hsz => rfl); (case h1 => rfl); (case hb => (repeat (first | exact mhd _ | apply mtl))); (case hfit => exact nle rfl); (case hov => ((repeat (first | with_reducible exact ov_nil | apply ov_cons)); done)); (case hu => repeat (first | exact Upd.here _ _ | apply Upd.there)); (case hν' => intro e he; (simp at he; simp [he]; done)))
              all_goals (apply dtk 21; (case hi => rfl); (case hop => (apply prd; apply p_nilCheck <;> rfl)); (case hq => kernel_rfl))
              all_goals (apply dtk 22; (case hi => rfl); (case hop => (apply prd; apply p_fieldAddrB <;> rfl)); (case hq => kernel_rfl))
              all_goals (apply dtk 23; (case hi => rfl); (case hop => (apply prd; apply p_fieldAddrB <;> rfl)); (case hq => kernel_rfl))
              all_goals (apply d_store 24; (case hi => rfl); (case hr => kernel_rfl); (case hL => infer_instance); (case hp => rfl); (case hx => rfl); (case hc => rfl); (case hsz => rfl); (case h1 => rfl); (case hb => (repeat (first | exact mhd _ | apply mtl))); (case hfit => exact nle rfl); (case hov => ((repeat (first | with_reducible exact ov_nil | apply ov_cons)); done)); (case hu => repeat (first | exact Upd.here _ _ | apply Upd.there)); (case hν' => intro e he; (simp at he; simp [he]; done)))
              all_goals (apply dtk 25; (case hi => rfl); (case hop => (apply prd; apply p_nilCheck <;> rfl)); (case hq => kernel_rfl))
              all_goals (apply dtk 26; (case hi => rfl); (case hop => (apply prd; apply p_fieldAddrB <;> rfl)); (case hq => kernel_rfl))
              all_goals (apply dtk 27; (case hi => rfl); (case hop => (apply prd; apply p_fieldAddrB <;> rfl)); (case hq => kernel_rfl))
              all_goals (apply d_store 28; (case hi => rfl); (case hr => kernel_rfl); (case hL => infer_instance); (case hp => rfl); (case hx => rfl); (case hc => rfl); (case hsz => rfl); (case h1 => rfl); (case hb => (repeat (first | exact mhd _ | apply mtl))); (case hfit => exact nle rfl); (case hov => ((repeat (first | with_reducible exact ov_nil | apply ov_cons)); done)); (case hu => repeat (first | exact Upd.here _ _ | apply Upd.there)); (case hν' => intro e he; (simp at he; simp [he]; done)))
              all_goals (apply d_done; (case hr => kernel_rfl))
            rotate_right
            focus
              (apply x_exec 6; (case hi => rfl);  (case hop => exact ReadOp.move (r_load1 rfl (Cell.own (by repeat (first | exact mhd _ | apply mtl)) rfl))); (case hd => rfl); rintro _ G0 _ ⟨rfl, hG0, rfl⟩; subst G0; refine ⟨(by intro e he; simp at he; simp [he]), ?_⟩)
              focus
                refine d_fork 7 11 (by kernel_rfl) ?_ ?_
                rotate_right
                focus
                  (apply x_exec 11; (case hi => rfl);  (case hop => exact ReadOp.move (r_load1 rfl (Cell.own (by repeat (first | exact mhd _ | apply mtl)) rfl))); (case hd => rfl); rintro _ G0 _ ⟨rfl, hG0, rfl⟩; subst G0; refine ⟨(by intro e he; simp at he; simp [he]), ?_⟩)
                  all_goals (apply dtk 12; (case hi => rfl); (case hop => (apply prd; apply p_lenSlice <;> rfl)); (case hq => kernel_rfl))
                  all_goals ((apply d_call 7 (hs := qo) (μ1 := []); (case hi => rfl); (case hr => kernel_rfl);  (case ha => rfl); (case hp => exact List.Perm.refl _); (case hd => rfl); (case hν' => intro e he; simp at he; simp [he]); rintro _ G4 _ hle4 ⟨rfl, L, rfl, iv, av, cv, rfl, hi, hac, hch⟩; obtain ⟨B0, d0, rfl, -⟩ := id hi.openInt; obtain ⟨B1, d1, rfl, -⟩ := id hac.open; obtain ⟨B2, d2, rfl, -⟩ := id hch.open))
                  all_goals (apply dtk 17; (case hi => rfl); (case hop => (apply prd; apply p_nilCheck <;> rfl)); (case hq => kernel_rfl))
                  all_goals (apply dtk 18; (case hi => rfl); (case hop => (apply prd; apply p_fieldAddrB <;> rfl)); (case hq => kernel_rfl))
                  all_goals (apply dtk 19; (case hi => rfl); (case hop => (apply prd; apply p_fieldAddrB <;> rfl)); (case hq => kernel_rfl))
                  all_goals (apply d_store 20; (case hi => rfl); (case hr => kernel_rfl); (case hL => infer_instance); (case hp => rfl); (case hx => rfl); (case hc => rfl); (case hsz => rfl); (case h1 => rfl); (case hb => (repeat (first | exact mhd _ | apply mtl))); (case hfit => exact nle rfl); (case hov => ((repeat (first | with_reducible exact ov_nil | apply ov_cons)); done)); (case hu => repeat (first | exact Upd.here _ _ | apply Upd.there)); (case hν' => intro e he; (simp at he; simp [he]; done)))
                  all_goals (apply dtk 21; (case hi => rfl); (case hop => (apply prd; apply p_nilCheck <;> rfl)); (case hq => kernel_rfl))
                  all_goals (apply dtk 22; (case hi => rfl); (case hop => (apply prd; apply p_fieldAddrB <;> rfl)); (case hq => kernel_rfl))
                  all_goals (apply dtk 23; (case hi => rfl); (case hop => (apply prd; apply p_fieldAddrB <;> rfl)); (case hq => kernel_rfl))
                  all_goals (apply d_store 24; (case hi => rfl); (case hr => kernel_rfl); (case hL => infer_instance); (case hp => rfl); (case hx => rfl); (case hc => rfl); (case hsz => rfl); (case h1 => rfl); (case hb => (repeat (first | exact mhd _ | apply mtl))); (case hfit => exact nle rfl); (case hov => ((repeat (first | with_reducible exact ov_nil | apply ov_cons)); done)); (case hu => repeat (first | exact Upd.here _ _ | apply Upd.there)); (case hν' => intro e he; (simp at he; simp [he]; done)))
                  all_goals (apply dtk 25; (case hi => rfl); (case hop => (apply prd; apply p_nilCheck <;> rfl)); (case hq => kernel_rfl))
                  all_goals (apply dtk 26; (case hi => rfl); (case hop => (apply prd; apply p_fieldAddrB <;> rfl)); (case hq => kernel_rfl))
                  all_goals (apply dtk 27; (case hi => rfl); (case hop => (apply prd; apply p_fieldAddrB <;> rfl)); (case hq => kernel_rfl))
                  all_goals (apply d_store 28; (case hi => rfl); (case hr => kernel_rfl); (case hL => infer_instance); (case hp => rfl); (case hx => rfl); (case hc => rfl); (case hsz => rfl); (case h1 => rfl); (case hb => (repeat (first | exact mhd _ | apply mtl))); (case hfit => exact nle rfl); (case hov => ((repeat (first | with_reducible exact ov_nil | apply ov_cons)); done)); (case hu => repeat (first | exact Upd.here _ _ | apply Upd.there)); (case hν' => intro e he; (simp at he; simp [he]; done)))
                  all_goals (apply d_done; (case hr => kernel_rfl))
                rotate_right
                focus
                  (apply x_call 7 (hs := qo) (μ1 := []); (case hi => rfl);  (case ha => rfl); (case hp => exact List.Perm.refl _); (case hd => rfl); (case hν' => intro e he; simp at he; simp [he]); rintro _ G4 _ hle4 ⟨rfl, L, rfl, iv, av, cv, rfl, hi, hac, hch⟩; obtain ⟨B0, d0, rfl, -⟩ := id hi.openInt; obtain ⟨B1, d1, rfl, -⟩ := id hac.open; obtain ⟨B2, d2, rfl, -⟩ := id hch.open)
                  all_goals (apply d_keep 11 (hop := ReadOp.move ?hop); (case hi => rfl); (case hr => kernel_rfl); (case hop => (apply r_load1; rfl; (apply Cell.own; (case h => repeat (first | exact mhd _ | apply mtl)); rfl))); (case hd => rfl))
                  all_goals (apply dtk 12; (case hi => rfl); (case hop => (apply prd; apply p_lenSlice <;> rfl)); (case hq => kernel_rfl))
                  all_goals (apply dtk 17; (case hi => rfl); (case hop => (apply prd; apply p_nilCheck <;> rfl)); (case hq => kernel_rfl))
                  all_goals (apply dtk 18; (case hi => rfl); (case hop => (apply prd; apply p_fieldAddrB <;> rfl)); (case hq => kernel_rfl))
                  all_goals (apply dtk 19; (case hi => rfl); (case hop => (apply prd; apply p_fieldAddrB <;> rfl)); (case hq => kernel_rfl))
                  all_goals (apply d_store 20; (case hi => rfl); (case hr => kernel_rfl); (case hL => infer_instance); (case hp => rfl); (case hx => rfl); (case hc => rfl); (case hsz => rfl); (case h1 => rfl); (case hb => (repeat (first | exact mhd _ | apply mtl))); (case hfit => exact nle rfl); (case hov => ((repeat (first | with_reducible exact ov_nil | apply ov_cons)); done)); (case hu => repeat (first | exact Upd.here _ _ | apply Upd.there)); (case hν' => intro e he; (simp at he; simp [he]; done)))
                  all_goals (apply dtk 21; (case hi => rfl); (case hop => (apply prd; apply p_nilCheck <;> rfl)); (case hq => kernel_rfl))
                  all_goals (apply dtk 22; (case hi => rfl); (case hop => (apply prd; apply p_fieldAddrB <;> rfl)); (case hq => kernel_rfl))
                  all_goals (apply dtk 23; (case hi => rfl); (case hop => (apply prd; apply p_fieldAddrB <;> rfl)); (case hq => kernel_rfl))
                  all_goals (apply d_store 24; (case hi => rfl); (case hr => kernel_rfl); (case hL => infer_instance); (case hp => rfl); (case hx => rfl); (case hc => rfl); (case hsz => rfl); (case h1 => rfl); (case hb => (repeat (first | exact mhd _ | apply mtl))); (case hfit => exact nle rfl); (case hov => ((repeat (first | with_reducible exact ov_nil | apply ov_cons)); done)); (case hu => repeat (first | exact Upd.here _ _ | apply Upd.there)); (case hν' => intro e he; (simp at he; simp [he]; done)))
                  all_goals (apply dtk 25; (case hi => rfl); (case hop => (apply prd; apply p_nilCheck <;> rfl)); (case hq => kernel_rfl))
                  all_goals (apply dtk 26; (case hi => rfl); (case hop => (apply prd; apply p_fieldAddrB <;> rfl)); (case hq => kernel_rfl))
                  all_goals (apply dtk 27; (case hi => rfl); (case hop => (apply prd; apply p_fieldAddrB <;> rfl)); (case hq => kernel_rfl))
                  all_goals (apply d_store 28; (case hi => rfl); (case hr => kernel_rfl); (case hL => infer_instance); (case hp => rfl); (case hx => rfl); (case hc => rfl); (case hsz => rfl); (case h1 => rfl); (case hb => (repeat (first | exact mhd _ | apply mtl))); (case hfit => exact nle rfl); (case hov => ((repeat (first | with_reducible exact ov_nil | apply ov_cons)); done)); (case hu => repeat (first | exact Upd.here _ _ | apply Upd.there)); (case hν' => intro e he; (simp at he; simp [he]; done)))
                  all_goals (apply d_done; (case hr => kernel_rfl))
        rotate_right
        focus
          (apply x_exec 11; (case hi => rfl);  (case hop => exact ReadOp.move (r_load1 rfl (Cell.own (by repeat (first | exact mhd _ | apply mtl)) rfl))); (case hd => rfl); rintro _ G0 _ ⟨rfl, hG0, rfl⟩; subst G0; refine ⟨(by intro e he; simp at he; simp [he]), ?_⟩)
          all_goals (apply dtk 12; (case hi => rfl); (case hop => (apply prd; apply p_lenSlice <;> rfl)); (case hq => kernel_rfl))
          focus
            refine d_fork 6 16 (by kernel_rfl) ?_ ?_
            rotate_right
            focus
              (apply x_exec 16; (case hi => rfl);  (case hop => exact ReadOp.move (r_load1 rfl (Cell.own (by repeat (first | exact mhd _ | apply mtl)) rfl))); (case hd => rfl); rintro _ G0 _ ⟨rfl, hG0, rfl⟩; subst G0; refine ⟨(by intro e he; simp at he; simp [he]), ?_⟩)
              all_goals (apply d_keep 6 (hop := ReadOp.move ?hop); (case hi => rfl); (case hr => kernel_rfl); (case hop => (apply r_load1; rfl; (apply Cell.own; (case h => repeat (first | exact mhd _ | apply mtl)); rfl))); (case hd => rfl))
              all_goals ((apply d_call 7 (hs := qo) (μ1 := []); (case hi => rfl); (case hr => kernel_rfl);  (case ha => rfl); (case hp => exact List.Perm.refl _); (case hd => rfl); (case hν' => intro e he; simp at he; simp [he]); rintro _ G4 _ hle4 ⟨rfl, L, rfl, iv, av, cv, rfl, hi, hac, hch⟩; obtain ⟨B0, d0, rfl, -⟩ := id hi.openInt; obtain ⟨B1, d1, rfl, -⟩ := id hac.open; obtain ⟨B2, d2, rfl, -⟩ := id hch.open))
              all_goals (apply dtk 17; (case hi => rfl); (case hop => (apply prd; apply p_nilCheck <;> rfl)); (case hq => kernel_rfl))
              all_goals (apply dtk 18; (case hi => rfl); (case hop => (apply prd; apply p_fieldAddrB <;> rfl)); (case hq => kernel_rfl))
              all_goals (apply dtk 19; (case hi => rfl); (case hop => (apply prd; apply p_fieldAddrB <;> rfl)); (case hq => kernel_rfl))
              all_goals (apply d_store 20; (case hi => rfl); (case hr => kernel_rfl); (case hL => infer_instance); (case hp => rfl); (case hx => rfl); (case hc => rfl); (case hsz => rfl); (case h1 => rfl); (case hb => (repeat (first | exact mhd _ | apply mtl))); (case hfit => exact nle rfl); (case hov => ((repeat (first | with_reducible exact ov_nil | apply ov_cons)); done)); (case hu => repeat (first | exact Upd.here _ _ | apply Upd.there)); (case hν' => intro e he; (simp at he; simp [he]; done)))
              all_goals (apply dtk 21; (case hi => rfl); (case hop => (apply prd; apply p_nilCheck <;> rfl)); (case hq => kernel_rfl))
              all_goals (apply dtk 22; (case hi => rfl); (case hop => (apply prd; apply p_fieldAddrB <;> rfl)); (case hq => kernel_rfl))
              all_goals (apply dtk 23; (case hi => rfl); (case hop => (apply prd; apply p_fieldAddrB <;> rfl)); (case hq => kernel_rfl))
              all_goals (apply d_store 24; (case hi => rfl); (case hr => kernel_rfl); (case hL => infer_instance); (case hp => rfl); (case hx => rfl); (case hc => rfl); (case hsz => rfl); (case h1 => rfl); (case hb => (repeat (first | exact mhd _ | apply mtl))); (case hfit => exact nle rfl); (case hov => ((repeat (first | with_reducible exact ov_nil | apply ov_cons)); done)); (case hu => repeat (first | exact Upd.here _ _ | apply Upd.there)); (case hν' => intro e he; (simp at he; simp [he]; done)))
              all_goals (apply dtk 25; (case hi => rfl); (case hop => (apply prd; apply p_nilCheck <;> rfl)); (case hq => kernel_rfl))
              all_goals (apply dtk 26; (case hi => rfl); (case hop => (apply prd; apply p_fieldAddrB <;> rfl)); (case hq => kernel_rfl))
              all_goals (apply dtk 27; (case hi => rfl); (case hop => (apply prd; apply p_fieldAddrB <;> rfl)); (case hq => kernel_rfl))
              all_goals (apply d_store 28; (case hi => rfl); (case hr => kernel_rfl); (case hL => infer_instance); (case hp => rfl); (case hx => rfl); (case hc => rfl); (case hsz => rfl); (case h1 => rfl); (case hb => (repeat (first | exact mhd _ | apply mtl))); (case hfit => exact nle rfl); (case hov => ((repeat (first | with_reducible exact ov_nil | apply ov_cons)); done)); (case hu => repeat (first | exact Upd.here _ _ | apply Upd.there)); (case hν' => intro e he; (simp at he; simp [he]; done)))
              all_goals (apply d_done; (case hr => kernel_rfl))
            rotate_right
            focus
              (apply x_exec 6; (case hi => rfl);  (case hop => exact ReadOp.move (r_load1 rfl (Cell.own (by repeat (first | exact mhd _ | apply mtl)) rfl))); (case hd => rfl); rintro _ G0 _ ⟨rfl, hG0, rfl⟩; subst G0; refine ⟨(by intro e he; simp at he; simp [he]), ?_⟩)
              focus
                refine d_fork 7 16 (by kernel_rfl) ?_ ?_
                rotate_right
                focus
                  (apply x_exec 16; (case hi => rfl);  (case hop => exact ReadOp.move (r_load1 rfl (Cell.own (by repeat (first | exact mhd _ | apply mtl)) rfl))); (case hd => rfl); rintro _ G0 _ ⟨rfl, hG0, rfl⟩; subst G0; refine ⟨(by intro e he; simp at he; simp [he]), ?_⟩)
                  all_goals ((apply d_call 7 (hs := qo) (μ1 := []); (case hi => rfl); (case hr => kernel_rfl);  (case ha => rfl); (case hp => exact List.Perm.refl _); (case hd => rfl); (case hν' => intro e he; simp at he; simp [he]); rintro _ G4 _ hle4 ⟨rfl, L, rfl, iv, av, cv, rfl, hi, hac, hch⟩; obtain ⟨B0, d0, rfl, -⟩ := id hi.openInt; obtain ⟨B1, d1, rfl, -⟩ := id hac.open; obtain ⟨B2, d2, rfl, -⟩ := id hch.open))
                  all_goals (apply dtk 17; (case hi => rfl); (case hop => (apply prd; apply p_nilCheck <;> rfl)); (case hq => kernel_rfl))
                  all_goals (apply dtk 18; (case hi => rfl); (case hop => (apply prd; apply p_fieldAddrB <;> rfl)); (case hq => kernel_rfl))
                  all_goals (apply dtk 19; (case hi => rfl); (case hop => (apply prd; apply p_fieldAddrB <;> rfl)); (case hq => kernel_rfl))
                  all_goals (apply d_store 20; (case hi => rfl); (case hr => kernel_rfl); (case hL => infer_instance); (case hp => rfl); (case hx => rfl); (case hc => rfl); (case hsz => rfl); (case h1 => rfl); (case hb => (repeat (first | exact mhd _ | apply mtl))); (case hfit => exact nle rfl); (case hov => ((repeat (first | with_reducible exact ov_nil | apply ov_cons)); done)); (case hu => repeat (first | exact Upd.here _ _ | apply Upd.there)); (case hν' => intro e he; (simp at he; simp [he]; done)))
                  all_goals (apply dtk 21; (case hi => rfl); (case hop => (apply prd; apply p_nilCheck <;> rfl)); (case hq => kernel_rfl))
                  all_goals (apply dtk 22; (case hi => rfl); (case hop => (apply prd; apply p_fieldAddrB <;> rfl)); (case hq => kernel_rfl))
                  all_goals (apply dtk 23; (case hi => rfl); (case hop => (apply prd; apply p_fieldAddrB <;> rfl)); (case hq => kernel_rfl))
                  all_goals (apply d_store 24; (case hi => rfl); (case hr => kernel_rfl); (case hL => infer_instance); (case hp => rfl); (case hx => rfl); (case hc => rfl); (case hsz => rfl); (case h1 => rfl); (case hb => (repeat (first | exact mhd _ | apply mtl))); (case hfit => exact nle rfl); (case hov => ((repeat (first | with_reducible exact ov_nil | apply ov_cons)); done)); (case hu => repeat (first | exact Upd.here _ _ | apply Upd.there)); (case hν' => intro e he; (simp at he; simp [he]; done)))
                  all_goals (apply dtk 25; (case hi => rfl); (case hop => (apply prd; apply p_nilCheck <;> rfl)); (case hq => kernel_rfl))
                  all_goals (apply dtk 26; (case hi => rfl); (case hop => (apply prd; apply p_fieldAddrB <;> rfl)); (case hq => kernel_rfl))
                  all_goals (apply dtk 27; (case hi => rfl); (case hop => (apply prd; apply p_fieldAddrB <;> rfl)); (case hq => kernel_rfl))
                  all_goals (apply d_store 28; (case hi => rfl); (case hr => kernel_rfl); (case hL => infer_instance); (case hp => rfl); (case hx => rfl); (case hc => rfl); (case hsz => rfl); (case h1 => rfl); (case hb => (repeat (first | exact mhd _ | apply mtl))); (case hfit => exact nle rfl); (case hov => ((repeat (first | with_reducible exact ov_nil | apply ov_cons)); done)); (case hu => repeat (first | exact Upd.here _ _ | apply Upd.there)); (case hν' => intro e he; (simp at he; simp [he]; done)))
                  all_goals (apply d_done; (case hr => kernel_rfl))
                rotate_right
                focus
                  (apply x_call 7 (hs := qo) (μ1 := []); (case hi => rfl);  (case ha => rfl); (case hp => exact List.Perm.refl _); (case hd => rfl); (case hν' => intro e he; simp at he; simp [he]); rintro _ G4 _ hle4 ⟨rfl, L, rfl, iv, av, cv, rfl, hi, hac, hch⟩; obtain ⟨B0, d0, rfl, -⟩ := id hi.openInt; obtain ⟨B1, d1, rfl, -⟩ := id hac.open; obtain ⟨B2, d2, rfl, -⟩ := id hch.open)
                  all_goals (apply d_keep 16 (hop := ReadOp.move ?hop); (case hi => rfl); (case hr => kernel_rfl); (case hop => (apply r_load1; rfl; (apply Cell.own; (case h => repeat (first | exact mhd _ | apply mtl)); rfl))); (case hd => rfl))
                  all_goals (apply dtk 17; (case hi => rfl); (case hop => (apply prd; apply p_nilCheck <;> rfl)); (case hq => kernel_rfl))
                  all_goals (apply dtk 18; (case hi => rfl); (case hop => (apply prd; apply p_fieldAddrB <;> rfl)); (case hq => kernel_rfl))
                  all_goals (apply dtk 19; (case hi => rfl); (case hop => (apply prd; apply p_fieldAddrB <;> rfl)); (case hq => kernel_rfl))
                  all_goals (apply d_store 20; (case hi => rfl); (case hr => kernel_rfl); (case hL => infer_instance); (case hp => rfl); (case hx => rfl); (case hc => rfl); (case hsz => rfl); (case h1 => rfl); (case hb => (repeat (first | exact mhd _ | apply mtl))); (case hfit => exact nle rfl); (case hov => ((repeat (first | with_reducible exact ov_nil | apply ov_cons)); done)); (case hu => repeat (first | exact Upd.here _ _ | apply Upd.there)); (case hν' => intro e he; (simp at he; simp [he]; done)))
                  all_goals (apply dtk 21; (case hi => rfl); (case hop => (apply prd; apply p_nilCheck <;> rfl)); (case hq => kernel_rfl))
                  all_goals (apply dtk 22; (case hi => rfl); (case hop => (apply prd; apply p_fieldAddrB <;> rfl)); (case hq => kernel_rfl))
                  all_goals (apply dtk 23; (case hi => rfl); (case hop => (apply prd; apply p_fieldAddrB <;> rfl)); (case hq => kernel_rfl))
                  all_goals (apply d_store 24; (case hi => rfl); (case hr => kernel_rfl); (case hL => infer_instance); (case hp => rfl); (case hx => rfl); (case hc => rfl); (case hsz => rfl); (case h1 => rfl); (case hb => (repeat (first | exact mhd _ | apply mtl))); (case hfit => exact nle rfl); (case hov => ((repeat (first | with_reducible exact ov_nil | apply ov_cons)); done)); (case hu => repeat (first | exact Upd.here _ _ | apply Upd.there)); (case hν' => intro e he; (simp at he; simp [he]; done)))
                  all_goals (apply dtk 25; (case hi => rfl); (case hop => (apply prd; apply p_nilCheck <;> rfl)); (case hq => kernel_rfl))
                  all_goals (apply dtk 26; (case hi => rfl); (case hop => (apply prd; apply p_fieldAddrB <;> rfl)); (case hq => kernel_rfl))
                  all_goals (apply dtk 27; (case hi => rfl); (case hop => (apply prd; apply p_fieldAddrB <;> rfl)); (case hq => kernel_rfl))
                  all_goals (apply d_store 28; (case hi => rfl); (case hr => kernel_rfl); (case hL => infer_instance); (case hp => rfl); (case hx => rfl); (case hc => rfl); (case hsz => rfl); (case h1 => rfl); (case hb => (repeat (first | exact mhd _ | apply mtl))); (case hfit => exact nle rfl); (case hov => ((repeat (first | with_reducible exact ov_nil | apply ov_cons)); done)); (case hu => repeat (first | exact Upd.here _ _ | apply Upd.there)); (case hν' => intro e he; (simp at he; simp [he]; done)))
                  all_goals (apply d_done; (case hr => kernel_rfl))
        rotate_right
        focus
          (apply x_exec 6; (case hi => rfl);  (case hop => exact ReadOp.move (r_load1 rfl (Cell.own (by repeat (first | exact mhd _ | apply mtl)) rfl))); (case hd => rfl); rintro _ G0 _ ⟨rfl, hG0, rfl⟩; subst G0; refine ⟨(by intro e he; simp at he; simp [he]), ?_⟩)
          focus
            refine d_fork3 7 11 16 (by kernel_rfl) ?_ ?_ ?_
            rotate_right
            focus
              (apply x_exec 16; (case hi => rfl);  (case hop => exact ReadOp.move (r_load1 rfl (Cell.own (by repeat (first | exact mhd _ | apply mtl)) rfl))); (case hd => rfl); rintro _ G0 _ ⟨rfl, hG0, rfl⟩; subst G0; refine ⟨(by intro e he; simp at he; simp [he]), ?_⟩)
              focus
                refine d_fork 7 11 (by kernel_rfl) ?_ ?_
                rotate_right
                focus
                  (apply x_exec 11; (case hi => rfl);  (case hop => exact ReadOp.move (r_load1 rfl (Cell.own (by repeat (first | exact mhd _ | apply mtl)) rfl))); (case hd => rfl); rintro _ G0 _ ⟨rfl, hG0, rfl⟩; subst G0; refine ⟨(by intro e he; simp at he; simp [he]), ?_⟩)
                  all_goals (apply dtk 12; (case hi => rfl); (case hop => (apply prd; apply p_lenSlice <;> rfl)); (case hq => kernel_rfl))
                  all_goals ((apply d_call 7 (hs := qo) (μ1 := []); (case hi => rfl); (case hr => kernel_rfl);  (case ha => rfl); (case hp => exact List.Perm.refl _); (case hd => rfl); (case hν' => intro e he; simp at he; simp [he]); rintro _ G4 _ hle4 ⟨rfl, L, rfl, iv, av, cv, rfl, hi, hac, hch⟩; obtain ⟨B0, d0, rfl, -⟩ := id hi.openInt; obtain ⟨B1, d1, rfl, -⟩ := id hac.open; obtain ⟨B2, d2, rfl, -⟩ := id hch.open))
                  all_goals (apply dtk 17; (case hi => rfl); (case hop => (apply prd; apply p_nilCheck <;> rfl)); (case hq => kernel_rfl))
                  all_goals (apply dtk 18; (case hi => rfl); (case hop => (apply prd; apply p_fieldAddrB <;> rfl)); (case hq => kernel_rfl))
                  all_goals (apply dtk 19; (case hi => rfl); (case hop => (apply prd; apply p_fieldAddrB <;> rfl)); (case hq => kernel_rfl))
                  all_goals (apply d_store 20; (case hi => rfl); (case hr => kernel_rfl); (case hL => infer_instance); (case hp => rfl); (case hx => rfl); (case hc => rfl); (case hsz => rfl); (case h1 => rfl); (case hb => (repeat (first | exact mhd _ | apply mtl))); (case hfit => exact nle rfl); (case hov => ((repeat (first | with_reducible exact ov_nil | apply ov_cons)); done)); (case hu => repeat (first | exact Upd.here _ _ | apply Upd.there)); (case hν' => intro e he; (simp at he; simp [he]; done)))
                  all_goals (apply dtk 21; (case hi => rfl); (case hop => (apply prd; apply p_nilCheck <;> rfl)); (case hq => kernel_rfl))
                  all_goals (apply dtk 22; (case hi => rfl); (case hop => (apply prd; apply p_fieldAddrB <;> rfl)); (case hq => kernel_rfl))
                  all_goals (apply dtk 23; (case hi => rfl); (case hop => (apply prd; apply p_fieldAddrB <;> rfl)); (case hq => kernel_rfl))
                  all_goals (apply d_store 24; (case hi => rfl); (case hr => kernel_rfl); (case hL => infer_instance); (case hp => rfl); (case hx => rfl); (case hc => rfl); (case hsz => rfl); (case h1 => rfl); (case hb => (repeat (first | exact mhd _ | apply mtl))); (case hfit => exact nle rfl); (case hov => ((repeat (first | with_reducible exact ov_nil | apply ov_cons)); done)); (case hu => repeat (first | exact Upd.here _ _ | apply Upd.there)); (case hν' => intro e he; (simp at he; simp [he]; done)))
                  all_goals (apply dtk 25; (case hi => rfl); (case hop => (apply prd; apply p_nilCheck <;> rfl)); (case hq => kernel_rfl))
                  all_goals (apply dtk 26; (case hi => rfl); (case hop => (apply prd; apply p_fieldAddrB <;> rfl)); (case hq => kernel_rfl))
                  all_goals (apply dtk 27; (case hi => rfl); (case hop => (apply prd; apply p_fieldAddrB <;> rfl)); (case hq => kernel_rfl))
                  all_goals (apply d_store 28; (case hi => rfl); (case hr => kernel_rfl); (case hL => infer_instance); (case hp => rfl); (case hx => rfl); (case hc => rfl); (case hsz => rfl); (case h1 => rfl); (case hb => (repeat (first | exact mhd _ | apply mtl))); (case hfit => exact nle rfl); (case hov => ((repeat (first | with_reducible exact ov_nil | apply ov_cons)); done)); (case hu => repeat (first | exact Upd.here _ _ | apply Upd.there)); (case hν' => intro e he; (simp at he; simp [he]; done)))
                  all_goals (apply d_done; (case hr => kernel_rfl))
                rotate_right
                focus
                  (apply x_call 7 (hs := qo) (μ1 := []); (case hi => rfl);  (case ha => rfl); (case hp => exact List.Perm.refl _); (case hd => rfl); (case hν' => intro e he; simp at he; simp [he]); rintro _ G4 _ hle4 ⟨rfl, L, rfl, iv, av, cv, rfl, hi, hac, hch⟩; obtain ⟨B0, d0, rfl, -⟩ := id hi.openInt; obtain ⟨B1, d1, rfl, -⟩ := id hac.open; obtain ⟨B2, d2, rfl, -⟩ := id hch.open)
                  all_goals (apply d_keep 11 (hop := ReadOp.move ?hop); (case hi => rfl); (case hr => kernel_rfl); (case hop => (apply r_load1; rfl; (apply Cell.own; (case h => repeat (first | exact mhd _ | apply mtl)); rfl))); (case hd => rfl))
                  all_goals (apply dtk 12; (case hi => rfl); (case hop => (apply prd; apply p_lenSlice <;> rfl)); (case hq => kernel_rfl))
                  all_goals (apply dtk 17; (case hi => rfl); (case hop => (apply prd; apply p_nilCheck <;> rfl)); (case hq => kernel_rfl))
                  all_goals (apply dtk 18; (case hi => rfl); (case hop => (apply prd; apply p_fieldAddrB <;> rfl)); (case hq => kernel_rfl))
                  all_goals (apply dtk 19; (case hi => rfl); (case hop => (apply prd; apply p_fieldAddrB <;> rfl)); (case hq => kernel_rfl))
                  all_goals (apply d_store 20; (case hi => rfl); (case hr => kernel_rfl); (case hL => infer_instance); (case hp => rfl); (case hx => rfl); (case hc => rfl); (case hsz => rfl); (case h1 => rfl); (case hb => (repeat (first | exact mhd _ | apply mtl))); (case hfit => exact nle rfl); (case hov => ((repeat (first | with_reducible exact ov_nil | apply ov_cons)); done)); (case hu => repeat (first | exact Upd.here _ _ | apply Upd.there)); (case hν' => intro e he; (simp at he; simp [he]; done)))
                  all_goals (apply dtk 21; (case hi => rfl); (case hop => (apply prd; apply p_nilCheck <;> rfl)); (case hq => kernel_rfl))
                  all_goals (apply dtk 22; (case hi => rfl); (case hop => (apply prd; apply p_fieldAddrB <;> rfl)); (case hq => kernel_rfl))
                  all_goals (apply dtk 23; (case hi => rfl); (case hop => (apply prd; apply p_fieldAddrB <;> rfl)); (case hq => kernel_rfl))
                  all_goals (apply d_store 24; (case hi => rfl); (case hr => kernel_rfl); (case hL => infer_instance); (case hp => rfl); (case hx => rfl); (case hc => rfl); (case hsz => rfl); (case h1 => rfl); (case hb => (repeat (first | exact mhd _ | apply mtl))); (case hfit => exact nle rfl); (case hov => ((repeat (first | with_reducible exact ov_nil | apply ov_cons)); done)); (case hu => repeat (first | exact Upd.here _ _ | apply Upd.there)); (case hν' => intro e he; (simp at he; simp [he]; done)))
                  all_goals (apply dtk 25; (case hi => rfl); (case hop => (apply prd; apply p_nilCheck <;> rfl)); (case hq => kernel_rfl))
                  all_goals (apply dtk 26; (case hi => rfl); (case hop => (apply prd; apply p_fieldAddrB <;> rfl)); (case hq => kernel_rfl))
                  all_goals (apply dtk 27; (case hi => rfl); (case hop => (apply prd; apply p_fieldAddrB <;> rfl)); (case hq => kernel_rfl))
                  all_goals (apply d_store 28; (case hi => rfl); (case hr => kernel_rfl); (case hL => infer_instance); (case hp => rfl); (case hx => rfl); (case hc => rfl); (case hsz => rfl); (case h1 => rfl); (case hb => (repeat (first | exact mhd _ | apply mtl))); (case hfit => exact nle rfl); (case hov => ((repeat (first | with_reducible exact ov_nil | apply ov_cons)); done)); (case hu => repeat (first | exact Upd.here _ _ | apply Upd.there)); (case hν' => intro e he; (simp at he; simp [he]; done)))
                  all_goals (apply d_done; (case hr => kernel_rfl))
            rotate_right
            focus
              (apply x_exec 11; (case hi => rfl);  (case hop => exact ReadOp.move (r_load1 rfl (Cell.own (by repeat (first | exact mhd _ | apply mtl)) rfl))); (case hd => rfl); rintro _ G0 _ ⟨rfl, hG0, rfl⟩; subst G0; refine ⟨(by intro e he; simp at he; simp [he]), ?_⟩)
              all_goals (apply dtk 12; (case hi => rfl); (case hop => (apply prd; apply p_lenSlice <;> rfl)); (case hq => kernel_rfl))
              focus
                refine d_fork 7 16 (by kernel_rfl) ?_ ?_
                rotate_right
                focus
                  (apply x_exec 16; (case hi => rfl);  (case hop => exact ReadOp.move (r_load1 rfl (Cell.own (by repeat (first | exact mhd _ | apply mtl)) rfl))); (case hd => rfl); rintro _ G0 _ ⟨rfl, hG0, rfl⟩; subst G0; refine ⟨(by intro e he; simp at he; simp [he]), ?_⟩)
                  all_goals ((apply d_call 7 (hs := qo) (μ1 := []); (case hi => rfl); (case hr => kernel_rfl);  (case ha => rfl); (case hp => exact List.Perm.refl _); (case hd => rfl); (case hν' => intro e he; simp at he; simp [he]); rintro _ G4 _ hle4 ⟨rfl, L, rfl, iv, av, cv, rfl, hi, hac, hch⟩; obtain ⟨B0, d0, rfl, -⟩ := id hi.openInt; obtain ⟨B1, d1, rfl, -⟩ := id hac.open; obtain ⟨B2, d2, rfl, -⟩ := id hch.open))
                  all_goals (apply dtk 17; (case hi => rfl); (case hop => (apply prd; apply p_nilCheck <;> rfl)); (case hq => kernel_rfl))
                  all_goals (apply dtk 18; (case hi => rfl); (case hop => (apply prd; apply p_fieldAddrB <;> rfl)); (case hq => kernel_rfl))
                  all_goals (apply dtk 19; (case hi => rfl); (case hop => (apply prd; apply p_fieldAddrB <;> rfl)); (case hq => kernel_rfl))
                  all_goals (apply d_store 20; (case hi => rfl); (case hr => kernel_rfl); (case hL => infer_instance); (case hp => rfl); (case hx => rfl); (case hc => rfl); (case hsz => rfl); (case h1 => rfl); (case hb => (repeat (first | exact mhd _ | apply mtl))); (case hfit => exact nle rfl); (case hov => ((repeat (first | with_reducible exact ov_nil | apply ov_cons)); done)); (case hu => repeat (first | exact Upd.here _ _ | apply Upd.there)); (case hν' => intro e he; (simp at he; simp [he]; done)))
                  all_goals (apply dtk 21; (case hi => rfl); (case hop => (apply prd; apply p_nilCheck <;> rfl)); (case hq => kernel_rfl))
                  all_goals (apply dtk 22; (case hi => rfl); (case hop => (apply prd; apply p_fieldAddrB <;> rfl)); (case hq => kernel_rfl))
                  all_goals (apply dtk 23; (case hi => rfl); (case hop => (apply prd; apply p_fieldAddrB <;> rfl)); (case hq => kernel_rfl))
                  all_goals (apply d_store 24; (case hi => rfl); (case hr => kernel_rfl); (case hL => infer_instance); (case hp => rfl); (case hx => rfl); (case hc => rfl); (case hsz => rfl); (case h1 => rfl); (case hb => (repeat (first | exact mhd _ | apply mtl))); (case hfit => exact nle rfl); (case hov => ((repeat (first | with_reducible exact ov_nil | apply ov_cons)); done)); (case hu => repeat (first | exact Upd.here _ _ | apply Upd.there)); (case hν' => intro e he; (simp at he; simp [he]; done)))
                  all_goals (apply dtk 25; (case hi => rfl); (case hop => (apply prd; apply p_nilCheck <;> rfl)); (case hq => kernel_rfl))
                  all_goals (apply dtk 26; (case hi => rfl); (case hop => (apply prd; apply p_fieldAddrB <;> rfl)); (case hq => kernel_rfl))
                  all_goals (apply dtk 27; (case hi => rfl); (case hop => (apply prd; apply p_fieldAddrB <;> rfl)); (case hq => kernel_rfl))
                  all_goals (apply d_store 28; (case hi => rfl); (case hr => kernel_rfl); (case hL => infer_instance); (case hp => rfl); (case hx => rfl); (case hc => rfl); (case hsz => rfl); (case h1 => rfl); (case hb => (repeat (first | exact mhd _ | apply mtl))); (case hfit => exact nle rfl); (case hov => ((repeat (first | with_reducible exact ov_nil | apply ov_cons)); done)); (case hu => repeat (first | exact Upd.here _ _ | apply Upd.there)); (case hν' => intro e he; (simp at he; simp [he]; done)))
                  all_goals (apply d_done; (case hr => kernel_rfl))
                rotate_right
                focus
                  (apply x_call 7 (hs := qo) (μ1 := []); (case hi => rfl);  (case ha => rfl); (case hp => exact List.Perm.refl _); (case hd => rfl); (case hν' => intro e he; simp at he; simp [he]); rintro _ G4 _ hle4 ⟨rfl, L, rfl, iv, av, cv, rfl, hi, hac, hch⟩; obtain ⟨B0, d0, rfl, -⟩ := id hi.openInt; obtain ⟨B1, d1, rfl, -⟩ := id hac.open; obtain ⟨B2, d2, rfl, -⟩ := id hch.open)
                  all_goals (apply d_keep 16 (hop := ReadOp.move ?hop); (case hi => rfl); (case hr => kernel_rfl); (case hop => (apply r_load1; rfl; (apply Cell.own; (case h => repeat (first | exact mhd _ | apply mtl)); rfl))); (case hd => rfl))
                  all_goals (apply dtk 17; (case hi => rfl); (case hop => (apply prd; apply p_nilCheck <;> rfl)); (case hq => kernel_rfl))
                  all_goals (apply dtk 18; (case hi => rfl); (case hop => (apply prd; apply p_fieldAddrB <;> rfl)); (case hq => kernel_rfl))
                  all_goals (apply dtk 19; (case hi => rfl); (case hop => (apply prd; apply p_fieldAddrB <;> rfl)); (case hq => kernel_rfl))
                  all_goals (apply d_store 20; (case hi => rfl); (case hr => kernel_rfl); (case hL => infer_instance); (case hp => rfl); (case hx => rfl); (case hc => rfl); (case hsz => rfl); (case h1 => rfl); (case hb => (repeat (first | exact mhd _ | apply mtl))); (case hfit => exact nle rfl); (case hov => ((repeat (first | with_reducible exact ov_nil | apply ov_cons)); done)); (case hu => repeat (first | exact Upd.here _ _ | apply Upd.there)); (case hν' => intro e he; (simp at he; simp [he]; done)))
                  all_goals (apply dtk 21; (case hi => rfl); (case hop => (apply prd; apply p_nilCheck <;> rfl)); (case hq => kernel_rfl))
                  all_goals (apply dtk 22; (case hi => rfl); (case hop => (apply prd; apply p_fieldAddrB <;> rfl)); (case hq => kernel_rfl))
                  all_goals (apply dtk 23; (case hi => rfl); (case hop => (apply prd; apply p_fieldAddrB <;> rfl)); (case hq => kernel_rfl))
                  all_goals (apply d_store 24; (case hi => rfl); (case hr => kernel_rfl); (case hL => infer_instance); (case hp => rfl); (case hx => rfl); (case hc => rfl); (case hsz => rfl); (case h1 => rfl); (case hb => (repeat (first | exact mhd _ | apply mtl))); (case hfit => exact nle rfl); (case hov => ((repeat (first | with_reducible exact ov_nil | apply ov_cons)); done)); (case hu => repeat (first | exact Upd.here _ _ | apply Upd.there)); (case hν' => intro e he; (simp at he; simp [he]; done)))
                  all_goals (apply dtk 25; (case hi => rfl); (case hop => (apply prd; apply p_nilCheck <;> rfl)); (case hq => kernel_rfl))
                  all_goals (apply dtk 26; (case hi => rfl); (case hop => (apply prd; apply p_fieldAddrB <;> rfl)); (case hq => kernel_rfl))
                  all_goals (apply dtk 27; (case hi => rfl); (case hop => (apply prd; apply p_fieldAddrB <;> rfl)); (case hq => kernel_rfl))
                  all_goals (apply d_store 28; (case hi => rfl); (case hr => kernel_rfl); (case hL => infer_instance); (case hp => rfl); (case hx => rfl); (case hc => rfl); (case hsz => rfl); (case h1 => rfl); (case hb => (repeat (first | exact mhd _ | apply mtl))); (case hfit => exact nle rfl); (case hov => ((repeat (first | with_reducible exact ov_nil | apply ov_cons)); done)); (case hu => repeat (first | exact Upd.here _ _ | apply Upd.there)); (case hν' => intro e he; (simp at he; simp [he]; done)))
                  all_goals (apply d_done; (case hr => kernel_rfl))
            rotate_right
            focus
              (apply x_call 7 (hs := qo) (μ1 := []); (case hi => rfl);  (case ha => rfl); (case hp => exact List.Perm.refl _); (case hd => rfl); (case hν' => intro e he; simp at he; simp [he]); rintro _ G4 _ hle4 ⟨rfl, L, rfl, iv, av, cv, rfl, hi, hac, hch⟩; obtain ⟨B0, d0, rfl, -⟩ := id hi.openInt; obtain ⟨B1, d1, rfl, -⟩ := id hac.open; obtain ⟨B2, d2, rfl, -⟩ := id hch.open)
              focus
                refine d_fork 11 16 (by kernel_rfl) ?_ ?_
                rotate_right
                focus
                  (apply x_exec 16; (case hi => rfl);  (case hop => exact ReadOp.move (r_load1 rfl (Cell.own (by repeat (first | exact mhd _ | apply mtl)) rfl))); (case hd => rfl); rintro _ G0 _ ⟨rfl, hG0, rfl⟩; subst G0; refine ⟨(by intro e he; simp at he; simp [he]), ?_⟩)
                  all_goals (apply d_keep 11 (hop := ReadOp.move ?hop); (case hi => rfl); (case hr => kernel_rfl); (case hop => (apply r_load1; rfl; (apply Cell.own; (case h => repeat (first | exact mhd _ | apply mtl)); rfl))); (case hd => rfl))
                  all_goals (apply dtk 12; (case hi => rfl); (case hop => (apply prd; apply p_lenSlice <;> rfl)); (case hq => kernel_rfl))
                  all_goals (apply dtk 17; (case hi => rfl); (case hop => (apply prd; apply p_nilCheck <;> rfl)); (case hq => kernel_rfl))
                  all_goals (apply dtk 18; (case hi => rfl); (case hop => (apply prd; apply p_fieldAddrB <;> rfl)); (case hq => kernel_rfl))
                  all_goals (apply dtk 19; (case hi => rfl); (case hop => (apply prd; apply p_fieldAddrB <;> rfl)); (case hq => kernel_rfl))
                  all_goals (apply d_store 20; (case hi => rfl); (case hr => kernel_rfl); (case hL => infer_instance); (case hp => rfl); (case hx => rfl); (case hc => rfl); (case hsz => rfl); (case h1 => rfl); (case hb => (repeat (first | exact mhd _ | apply mtl))); (case hfit => exact nle rfl); (case hov => ((repeat (first | with_reducible exact ov_nil | apply ov_cons)); done)); (case hu => repeat (first | exact Upd.here _ _ | apply Upd.there)); (case hν' => intro e he; (simp at he; simp [he]; done)))
                  all_goals (apply dtk 21; (case hi => rfl); (case hop => (apply prd; apply p_nilCheck <;> rfl)); (case hq => kernel_rfl))
                  all_goals (apply dtk 22; (case hi => rfl); (case hop => (apply prd; apply p_fieldAddrB <;> rfl)); (case hq => kernel_rfl))
                  all_goals (apply dtk 23; (case hi => rfl); (case hop => (apply prd; apply p_fieldAddrB <;> rfl)); (case hq => kernel_rfl))
                  all_goals (apply d_store 24; (case hi => rfl); (case hr => kernel_rfl); (case hL => infer_instance); (case hp => rfl); (case hx => rfl); (case hc => rfl); (case hsz => rfl); (case h1 => rfl); (case hb => (repeat (first | exact mhd _ | apply mtl))); (case hfit => exact nle rfl); (case hov => ((repeat (first | with_reducible exact ov_nil | apply ov_cons)); done)); (case hu => repeat (first | exact Upd.here _ _ | apply Upd.there)); (case hν' => intro e he; (simp at he; simp [he]; done)))
                  all_goals (apply dtk 25; (case hi => rfl); (case hop => (apply prd; apply p_nilCheck <;> rfl)); (case hq => kernel_rfl))
                  all_goals (apply dtk 26; (case hi => rfl); (case hop => (apply prd; apply p_fieldAddrB <;> rfl)); (case hq => kernel_rfl))
                  all_goals (apply dtk 27; (case hi => rfl); (case hop => (apply prd; apply p_fieldAddrB <;> rfl)); (case hq => kernel_rfl))
                  all_goals (apply d_store 28; (case hi => rfl); (case hr => kernel_rfl); (case hL => infer_instance); (case hp => rfl); (case hx => rfl); (case hc => rfl); (case hsz => rfl); (case h1 => rfl); (case hb => (repeat (first | exact mhd _ | apply mtl))); (case hfit => exact nle rfl); (case hov => ((repeat (first | with_reducible exact ov_nil | apply ov_cons)); done)); (case hu => repeat (first | exact Upd.here _ _ | apply Upd.there)); (case hν' => intro e he; (simp at he; simp [he]; done)))
                  all_goals (apply d_done; (case hr => kernel_rfl))
                rotate_right
                focus
                  (apply x_exec 11; (case hi => rfl);  (case hop => exact ReadOp.move (r_load1 rfl (Cell.own (by repeat (first | exact mhd _ | apply mtl)) rfl))); (case hd => rfl); rintro _ G0 _ ⟨rfl, hG0, rfl⟩; subst G0; refine ⟨(by intro e he; simp at he; simp [he]), ?_⟩)
                  all_goals (apply dtk 12; (case hi => rfl); (case hop => (apply prd; apply p_lenSlice <;> rfl)); (case hq => kernel_rfl))
                  all_goals (apply d_keep 16 (hop := ReadOp.move ?hop); (case hi => rfl); (case hr => kernel_rfl); (case hop => (apply r_load1; rfl; (apply Cell.own; (case h => repeat (first | exact mhd _ | apply mtl)); rfl))); (case hd => rfl))
                  all_goals (apply dtk 17; (case hi => rfl); (case hop => (apply prd; apply p_nilCheck <;> rfl)); (case hq => kernel_rfl))
                  all_goals (apply dtk 18; (case hi => rfl); (case hop => (apply prd; apply p_fieldAddrB <;> rfl)); (case hq => kernel_rfl))
                  all_goals (apply dtk 19; (case hi => rfl); (case hop => (apply prd; apply p_fieldAddrB <;> rfl)); (case hq => kernel_rfl))
                  all_goals (apply d_store 20; (case hi => rfl); (case hr => kernel_rfl); (case hL => infer_instance); (case hp => rfl); (case hx => rfl); (case hc => rfl); (case hsz => rfl); (case h1 => rfl); (case hb => (repeat (first | exact mhd _ | apply mtl))); (case hfit => exact nle rfl); (case hov => ((repeat (first | with_reducible exact ov_nil | apply ov_cons)); done)); (case hu => repeat (first | exact Upd.here _ _ | apply Upd.there)); (case hν' => intro e he; (simp at he; simp [he]; done)))
                  all_goals (apply dtk 21; (case hi => rfl); (case hop => (apply prd; apply p_nilCheck <;> rfl)); (case hq => kernel_rfl))
                  all_goals (apply dtk 22; (case hi => rfl); (case hop => (apply prd; apply p_fieldAddrB <;> rfl)); (case hq => kernel_rfl))
                  all_goals (apply dtk 23; (case hi => rfl); (case hop => (apply prd; apply p_fieldAddrB <;> rfl)); (case hq => kernel_rfl))
                  all_goals (apply d_store 24; (case hi => rfl); (case hr => kernel_rfl); (case hL => infer_instance); (case hp => rfl); (case hx => rfl); (case hc => rfl); (case hsz => rfl); (case h1 => rfl); (case hb => (repeat (first | exact mhd _ | apply mtl))); (case hfit => exact nle rfl); (case hov => ((repeat (first | with_reducible exact ov_nil | apply ov_cons)); done)); (case hu => repeat (first | exact Upd.here _ _ | apply Upd.there)); (case hν' => intro e he; (simp at he; simp [he]; done)))
                  all_goals (apply dtk 25; (case hi => rfl); (case hop => (apply prd; apply p_nilCheck <;> rfl)); (case hq => kernel_rfl))
                  all_goals (apply dtk 26; (case hi => rfl); (case hop => (apply prd; apply p_fieldAddrB <;> rfl)); (case hq => kernel_rfl))
                  all_goals (apply dtk 27; (case hi => rfl); (case hop => (apply prd; apply p_fieldAddrB <;> rfl)); (case hq => kernel_rfl))
                  all_goals (apply d_store 28; (case hi => rfl); (case hr => kernel_rfl); (case hL => infer_instance); (case hp => rfl); (case hx => rfl); (case hc => rfl); (case hsz => rfl); (case h1 => rfl); (case hb => (repeat (first | exact mhd _ | apply mtl))); (case hfit => exact nle rfl); (case hov => ((repeat (first | with_reducible exact ov_nil | apply ov_cons)); done)); (case hu => repeat (first | exact Upd.here _ _ | apply Upd.there)); (case hν' => intro e he; (simp at he; simp [he]; done)))
                  all_goals (apply d_done; (case hr => kernel_rfl))
      all_goals
        repeat' (first | apply v_seq | apply v_region | apply v_nil | (apply v_pure; (case hop => first | (apply p_assign <;> rfl) | (apply p_fieldAddrB <;> rfl) | (apply p_nilCheck <;> rfl) | fail); (case hd => rfl)) | (apply v_read; (case hop => first | (apply r_loadNo; (case hx => rfl); (case h => (repeat (first | exact mhd _ | apply mtl))); (case hd => (repeat (first | with_reducible exact dt_nil | apply dt_here))); (case hn => rfl)) | (apply r_load1; rfl; (apply Cell.own; (case h => (repeat (first | exact mhd _ | apply mtl))); rfl)) | fail); (case hd => rfl)) | (apply v_store; (case hp => rfl); (case hx => rfl); (case hc => rfl); (case hsz => rfl); (case h1 => rfl); (case hb => (repeat (first | exact mhd _ | apply mtl))); (case hfit => exact nle rfl); (case hov => ((repeat (first | with_reducible exact ov_nil | apply ov_cons)); done)); (case hu => repeat (first | exact Upd.here _ _ | apply Upd.there))) | fail)
        refine v_retM [] (outsM_cell_tmp (vs := ctL f (hdL (hardOf xs').pr (hardOf xs').pn (hardOf xs').base (.slice B0 (hardOf xs').image.length d0) (.slice B1 (hardOf xs').acc.length d1) (.slice B2 (hardOf xs').cho.length d2)) (xs'.length : Nat) (a' : Nat)) (e := 50) rfl rfl rfl (by repeat (first | exact mhd _ | apply mtl)) rfl) (by repeat (exact List.nil_sublist _)) ?_
        exact ⟨rfl, .inr ⟨f, xs', a', _, hR', rfl, _, _, _, rfl, hi, hac, hch⟩⟩
  · obtain ⟨h1, h2, h3⟩ := next_drop hw hn
    have hst := recsF_step (decF f) (D := D.length) (fun y hy => hw y (List.mem_of_mem_drop hy)) (by rw [List.length_drop]; omega) hn hd
    rw [h1] at hst
    refine v_perm ((hp'.append_left _).append_right _) ?_
    repeat' (first | apply v_nil | apply v_skip | apply v_block | (apply v_exit; (case hp => rfl)) | (apply v_condT; (case hc => rfl)) | fail)
    refine v_againI (D.length - t.length) rfl ⟨GH.le_trans hle hle2, h2, lv', xs ++ [x], ν', rfl, rfl, hg', by rw [List.length_append, List.length_singleton]; omega, ?_⟩ (by omega)
    rw [hrec, hst, List.append_assoc]
    rfl
theorem readF_file {f : Int} {n : Nat} {xs : List Rc} (hf : f = 1 ∨ f = 2) (hn : n ≤ xs.length) (hx : ∀ x ∈ xs, okC (encF f) (decF f) x) (hbig : (xs.length : Int) ≤ 9223372036854775807) : readF decF (fileB encF f n xs) = some (f, xs, (fileB encF f n xs).length) := by
  obtain ⟨-, h⟩ := readF_cut encF decF (m := (fileB encF f n xs).length) hf hn hx hbig (Nat.le_refl _)
  have he : endN encF f n xs xs.length = (fileB encF f n xs).length := by
    unfold endN fileB
    rw [List.take_length, List.length_append]
  have hm : endN encF f n xs n ≤ (fileB encF f n xs).length := by
    rw [← he]
    unfold endN
    have := flatF_len_take (encF f) xs n
    rw [List.take_length]
    omega
  obtain ⟨K, h1, h2, h3, h4, h5⟩ := h (by omega)
  have hK : K = xs.length := Nat.le_antisymm h2 (h4 _ (Nat.le_refl _) (by omega))
  subst hK
  rw [List.take_length, List.take_length, he] at h5
  exact h5
theorem recs_zero : recsOf Hd.zero = [] := by
  rw [recsOf_parts]
  simp [part2, part1, Hd.zero]
theorem check_zero : CheckP Hd.zero := by
  refine ⟨.inl ⟨rfl, rfl⟩, ⟨by decide, by decide⟩, by decide, by decide, ?_, ?_, (fun e he => absurd he List.not_mem_nil), (fun e he => absurd he List.not_mem_nil)⟩
  · exact chk_of (l := []) (fun x hx => by cases hx) (fun i j hj => by simp at hj) _ 0 rfl
  · exact chk_of (l := []) (fun x hx => by cases hx) (fun i j hj => by simp at hj) _ 0 rfl
theorem file_zero : (fileB encF 1 0 []).length = 7 := by
  have e1 : vbytes 1 = [1] := by decide +kernel
  have e2 : vbytes (0 : Nat) = [0] := by decide +kernel
  have e3 : vbytes ((2 : Nat) : Int) = [2] := by decide +kernel
  unfold fileB
  rw [e1, e2, List.length_append, frB_len]
  show (vbytes ((2 : Nat) : Int)).length + 2 + 4 + 0 = 7
  rw [e3]
  rfl
theorem awake20_s {G : GH} (hT : TabsG G) (hC : CrcG G) : Con Tryz.prog 11 #[] G [] (Just (.bool true) G) := by
  apply Con.just
  have hno : headNo 1 Hd.zero = 0 := by
    unfold headNo
    rw [if_pos (.inl rfl), if_pos check_zero, recs_zero]
    rfl
  have qh := head_s hT hC 1 (hd_zero G) (fun _ => good_zero) (by omega) (by decide) (by rw [recs_zero]; decide) (fun _ x hx => by rw [recs_zero] at hx; cases hx)
  rw [hno, recs_zero, if_pos rfl] at qh
  have h7 := file_zero
  have hrd := readF_file (f := 1) (n := 0) (xs := []) (.inl rfl) (by decide) (fun x hx => by cases hx) (by decide)
  rw [h7] at hrd
  rw [show fileB encF 1 [].length [] = fileB encF 1 0 [] from rfl] at qh
  generalize fileB encF 1 0 [] = D at *
  (refine v_enter Tryz.func11 rfl Tryz.ntmps11 rfl ?_; intro B _)
  repeat' (first | apply v_seq | apply v_region | apply v_nil | (apply v_pure; (case hop => first | (apply p_assign <;> rfl) | (apply p_build; (case hz => rfl); (case hv => (simp only [List.map_cons, List.map_nil]; repeat (with_reducible exact evs_nil))); (case hb => (apply bldL; repeat (exact bld_nil)))) | fail); (case hd => rfl)) | fail)
  refine v_call (μ1 := []) rfl qh (List.Perm.refl _) rfl ?_
  rintro _ G1 _ hle1 ⟨rfl, v1, rfl, s1⟩
  have q2 := sread_s (hT.le hle1) (hC.le hle1) s1 (by omega) (fun f xs k h => by rw [hrd] at h; cases h; decide)
  have h7' := h7
  obtain ⟨A1, c1, rfl, -⟩ := id s1.openInt
  repeat' (first | apply v_seq | apply v_region | apply v_nil | (apply v_pure; (case hop => first | (apply p_move <;> rfl) | (apply p_assign <;> rfl) | (apply p_extract0 <;> rfl) | (apply p_extract1 <;> rfl) | fail); (case hd => rfl)) | fail)
  refine v_call (μ1 := []) rfl q2 (List.Perm.refl _) rfl ?_
  rintro _ G2 _ hle2 ⟨rfl, ⟨hn, -⟩ | ⟨f, xs, k, L, hR, rfl, hL⟩⟩
  · rw [hrd] at hn; cases hn
  rw [hrd] at hR
  cases hR
  obtain ⟨iv, av, cv, rfl, hi, hac, hch⟩ := hL
  obtain ⟨B0, d0, rfl, -⟩ := id hi.openInt
  obtain ⟨B1, d1, rfl, -⟩ := id hac.open
  obtain ⟨B2, d2, rfl, -⟩ := id hch.open
  rw [h7]
  repeat' (first | apply v_seq | apply v_region | apply v_nil | (apply v_take; (case hg => rfl)) | (apply v_pure; (case hop => first | (apply p_move <;> rfl) | (apply p_eqs <;> rfl) | (apply p_assign <;> rfl) | (apply p_pickT <;> rfl) | (apply p_lenSlice <;> rfl) | (apply p_fieldAddrB <;> rfl) | (apply p_extract0 <;> rfl) | (apply p_extract1 <;> rfl) | fail); (case hd => rfl)) | (apply v_read; (case hop => (apply r_load1; rfl; (apply Cell.own; (case h => (repeat (exact mhd _))); rfl))); (case hd => rfl)) | (apply v_alloc; (case hz => rfl); (case hd => rfl); intro b) | (apply v_store; (case hp => rfl); (case hx => rfl); (case hc => rfl); (case hsz => rfl); (case h1 => rfl); (case hb => (repeat (exact mhd _))); (case hfit => exact nle rfl); (case hov => ((repeat (first | with_reducible exact ov_nil | apply ov_cons)); done)); (case hu => repeat (exact Upd.here _ _))) | fail)
  all_goals
    (refine v_ret [] (outsA1 rfl rfl) (by repeat (exact List.nil_sublist _)) ?_
     exact ⟨rfl, rfl⟩)
def crcTab : List Int := [0, 498536548, 997073096, 651767980, 1994146192, 1802195444, 1303535960, 1342533948, 3988292384, 4027552580, 3604390888, 3412177804, 2607071920, 2262029012, 2685067896, 3183342108]
theorem crcTab_at : ∀ i, i < 16 → crcTab[i]? = some ((tab i).toNat : Int) := by decide +kernel
theorem crcEq : (Rows.laid_changeover_crc_table : DataW Unit) = Lib.tabData .u32 crcTab := by kernel_rfl
abbrev tabsLaid3 : List (String × DataW Unit) := [("unicode/utf8.acceptRanges", Rows.laid_unicode_utf8_acceptRanges), ("changeover/crc.table", Rows.laid_changeover_crc_table), ("unicode/utf8.first", Rows.laid_unicode_utf8_first)]
theorem tabs3_plain : (tabsLaid3.all fun x => x.2.handleName?.isNone) = true := by kernel_rfl
theorem tabs3_of_laid {W : World} (hL : laidMetH Tryz.prog tabsLaid3 W) : TabsG (ghost W) ∧ CrcG (ghost W) := by
  rw [MakeChecks.laidMetH_plain _ _ _ tabs3_plain] at hL
  have r1 := Lib.laidMet.reads hL (.tail _ (.tail _ (.head _)))
  have r2 := Lib.laidMet.reads hL (.head _)
  have r3 := Lib.laidMet.reads hL (.tail _ (.head _))
  rw [firstEq] at r1
  rw [acceptEq] at r2
  rw [crcEq] at r3
  have hU := utf8Tabs_of_readsT (ρ := laysDecode_ren) { laysDecode with } ⟨by kernel_rfl, by kernel_rfl, by kernel_rfl, by kernel_rfl, by kernel_rfl, by kernel_rfl, by kernel_rfl⟩ r1 r2
  clear hL r1 r2
  constructor
  · intro w hw
    have lift : ∀ (a : Addr) v, W.cell? a = some v → w.cell? a = some v := by
      intro a v h
      unfold World.cell? at h ⊢
      cases hb : W.heap[a.block]? with
      | none => rw [hb] at h; simp at h
      | some o => rw [hw _ _ hb]; rw [hb] at h; exact h
    exact ⟨fun c hc => lift _ _ (hU.1 c hc), fun i hi => ⟨lift _ _ (hU.2 i hi).1, lift _ _ (hU.2 i hi).2⟩⟩
  · obtain ⟨g, t, cs, fuel, p, hg, hty, hvar, hd⟩ := r3
    obtain rfl := Option.some.inj ((show Tryz.prog.globalNamed "changeover/crc.table" = some 0 by kernel_rfl).symm.trans hg)
    obtain rfl := Option.some.inj ((show (Tryz.prog.globals[0]?).map (·.type) = some 240 by kernel_rfl).symm.trans hty)
    have hcs := Lib.cells_of_tab Tryz.underlying240 Tryz.underlying135 (by kernel_rfl) (by kernel_rfl) hd
    intro i hi
    rw [ghost_cell]
    have := World.var?_cell hg hvar i
    rw [this, ← Array.getElem?_toList, hcs, List.getElem?_map, crcTab_at i hi]
    rfl
set_option maxHeartbeats 1000000 in
theorem segmReads_main {W : World} (hT : TabsG (ghost W)) (hC : CrcG (ghost W)) {D : List Int} {v0 : Value} (hs : Sl (ghost W) 1 (IntR .u8) v0 D) : LawCon Tryz.prog 6 #[v0] W := by
  unfold LawCon
  generalize ghost W = G at *
  have qa := fun G' (h : GH.le G G') => awake20_s (hT.le h) (hC.le h)
  have hw : byteL D := fun y hy => sl_byte hs y hy
  obtain ⟨A, c, rfl, hlc, hcm, -⟩ := id hs.openInt
  simp only [maxLen] at hcm
  (refine v_enter Tryz.func6 rfl Tryz.ntmps6 rfl ?_; intro B _)
  by_cases hl : 1500 < D.length
  · repeat' (first | apply v_seq | apply v_region | apply v_nil | (apply v_pure; (case hop => first | (apply p_move <;> rfl) | (apply p_gt <;> rfl) | (apply p_assign <;> rfl) | (apply p_lenSlice <;> rfl) | fail); (case hd => rfl)) | (apply v_cond; (case hc => rfl); all_goals (intro h; (try simp only [reduceCtorEq, zzz] at h); first | (exfalso; omega) | skip)) | (apply v_callJ (hs := qa _ (GH.le_refl _)); (case ha => rfl); (case hd => rfl)) | fail)
    refine v_ret [] (outsA1 rfl rfl) (by repeat (exact List.Sublist.refl _)) ?_
    rfl
  have hfew : ∀ f xs k, readF decF D = some (f, xs, k) → xs.length ≤ 200 := fun f xs k h => by
    have := (readF_few hw h).2.1
    omega
  repeat' (first | apply v_seq | apply v_region | apply v_nil | apply v_skip | (apply v_pure; (case hop => first | (apply p_move <;> rfl) | (apply p_gt <;> rfl) | (apply p_assign <;> rfl) | (apply p_lenSlice <;> rfl) | fail); (case hd => rfl)) | (apply v_cond; (case hc => rfl); all_goals (intro h; (try simp only [reduceCtorEq, zzz] at h); first | (exfalso; omega) | skip)) | fail)
  refine v_call (μ1 := []) rfl (sread_s hT hC hs (by omega) hfew) (List.Perm.refl _) rfl ?_
  rintro _ G1 _ hle1 ⟨rfl, ⟨hn, rfl⟩ | ⟨f, xs, k, L, hR, rfl, hL⟩⟩
  · have qa1 := qa _ hle1
    repeat' (first | apply v_seq | apply v_region | apply v_nil | (apply v_take; (case hg => rfl)) | (apply v_pure; (case hop => first | (apply p_move <;> rfl) | (apply p_eqs <;> rfl) | (apply p_ne <;> rfl) | (apply p_assign <;> rfl) | (apply p_pickT <;> rfl) | (apply p_fieldAddrB <;> rfl) | (apply p_extract0 <;> rfl) | (apply p_extract1 <;> rfl) | fail); (case hd => rfl)) | (apply v_cond; (case hc => rfl); all_goals (intro h; (try simp only [reduceCtorEq, zzz] at h); first | (exfalso; omega) | skip)) | (apply v_callJ (hs := qa1); (case ha => rfl); (case hd => rfl)) | (apply v_read; (case hop => (apply r_load1; rfl; (apply Cell.own; (case h => (repeat (exact mhd _))); rfl))); (case hd => rfl)) | (apply v_alloc; (case hz => rfl); (case hd => rfl); intro b) | (apply v_store; (case hp => rfl); (case hx => rfl); (case hc => rfl); (case hsz => rfl); (case h1 => rfl); (case hb => (repeat (exact mhd _))); (case hfit => exact nle rfl); (case hov => ((repeat (first | with_reducible exact ov_nil | apply ov_cons)); done)); (case hu => repeat (exact Upd.here _ _))) | fail)
    all_goals
      (refine v_ret [] (outsA1 rfl rfl) (by repeat (exact List.nil_sublist _)) ?_
       rfl)
  obtain ⟨hf, -, hxs⟩ := readF_few hw hR
  obtain ⟨hk, -, hR2⟩ := readF_again decF hw hR
  have h200 := hfew _ _ _ hR
  have hg := (hard_inv (l := xs) fun x hx => (hxs x hx).2.1).good
  have hs1 := (hs.mono hle1).take (k := k) (by omega)
  have hL1 := hL
  obtain ⟨iv, av, cv, rfl, hi, hac, hch⟩ := hL
  obtain ⟨B0, d0, rfl, -⟩ := id hi.openInt
  obtain ⟨B1, d1, rfl, -⟩ := id hac.open
  obtain ⟨B2, d2, rfl, -⟩ := id hch.open
  have q2 := sread_s (hT.le hle1) (hC.le hle1) hs1 (by rw [List.length_take]; omega) (fun f' xs' k' h => by rw [hR2] at h; cases h; exact h200)
  repeat' (first | apply v_seq | apply v_region | apply v_nil | apply v_skip | (apply v_pure; (case hop => first | (apply p_move <;> rfl) | (apply p_nes <;> rfl) | (apply p_assign <;> rfl) | (apply p_fieldAddrB <;> rfl) | (apply p_extract0 <;> rfl) | (apply p_extract1 <;> rfl) | (apply p_sliceH; (case hx => rfl); (case hh => rfl); all_goals omega) | fail); (case hd => rfl)) | (apply v_condF; (case hc => rfl)) | (apply v_read; (case hop => (apply r_load1; rfl; (apply Cell.own; (case h => (repeat (exact mhd _))); rfl))); (case hd => rfl)) | (apply v_alloc; (case hz => rfl); (case hd => rfl); intro b) | (apply v_store; (case hp => rfl); (case hx => rfl); (case hc => rfl); (case hsz => rfl); (case h1 => rfl); (case hb => (repeat (exact mhd _))); (case hfit => exact nle rfl); (case hov => ((repeat (first | with_reducible exact ov_nil | apply ov_cons)); done)); (case hu => repeat (exact Upd.here _ _))) | fail)
  refine v_call (μ1 := []) rfl q2 (List.Perm.refl _) rfl ?_
  rintro _ G2 _ hle2 ⟨rfl, ⟨hn, -⟩ | ⟨f', xs', k', L', hR', rfl, hL'⟩⟩
  · rw [hR2] at hn; cases hn
  rw [hR2] at hR'
  cases hR'
  have hL2 := hL'
  obtain ⟨iv', av', cv', rfl, hi', hac', hch'⟩ := hL'
  obtain ⟨B3, d3, rfl, -⟩ := id hi'.openInt
  obtain ⟨B4, d4, rfl, -⟩ := id hac'.open
  obtain ⟨B5, d5, rfl, -⟩ := id hch'.open
  have qk := hCheck_s (hL1.le hle2) hg
  have qs := hSame_s (hL1.le hle2) hL2
  have qa2 := qa _ (GH.le_trans hle1 hle2)
  clear hg hR hR2 hfew hxs hL1 hL2 hi hac hch hi' hac' hch' q2
  generalize hardOf xs = H at *
  obtain rfl | rfl := hf
  all_goals
    repeat' (first | apply v_seq | apply v_region | apply v_nil | (apply v_take; (case hg => rfl)) | (apply v_pass; (case hg => rfl); (case hn => rfl); (case hd => rfl)) | (apply v_pure; (case hop => first | (apply p_move <;> rfl) | (apply p_eqs <;> rfl) | (apply p_eq <;> rfl) | (apply p_le <;> rfl) | (apply p_assign <;> rfl) | (apply p_pickT <;> rfl) | (apply p_pickF <;> rfl) | (apply p_lenSlice <;> rfl) | (apply p_fieldAddrB <;> rfl) | (apply p_extract0 <;> rfl) | (apply p_extract1 <;> rfl) | fail); (case hd => rfl)) | (apply v_guardB; (case h1 => rfl); (case h2 => rfl); all_goals (intro h; (try simp only [reduceCtorEq, zzz] at h); first | (exfalso; omega) | skip)) | (apply v_callJ (hs := qk); (case ha => rfl); (case hd => rfl)) | (apply v_callJ (hs := qs); (case ha => rfl); (case hd => rfl)) | (apply v_callJ (hs := qa2); (case ha => rfl); (case hd => rfl)) | (apply v_read; (case hop => first | (apply r_loadNo; (case hx => rfl); (case h => (repeat (first | exact mhd _ | apply mtl))); (case hd => (repeat (first | with_reducible exact dt_nil | apply dt_here))); (case hn => rfl)) | (apply r_load1; rfl; (apply Cell.own; (case h => (repeat (first | exact mhd _ | apply mtl))); rfl)) | fail); (case hd => rfl)) | (apply v_alloc; (case hz => rfl); (case hd => rfl); intro b) | (apply v_store; (case hp => rfl); (case hx => rfl); (case hc => rfl); (case hsz => rfl); (case h1 => rfl); (case hb => (repeat (exact mhd _))); (case hfit => exact nle rfl); (case hov => ((repeat (first | with_reducible exact ov_nil | apply ov_cons)); done)); (case hu => repeat (exact Upd.here _ _))) | fail)
    all_goals first
      | (exfalso; omega)
      | (refine v_ret [] (outsA1 rfl rfl) (by repeat (exact List.nil_sublist _)) ?_
         rfl)
      | skip
  all_goals vx_show
theorem segmReads_law {W : World} {v0 : Value} (hT : TabsG (ghost W) ∧ CrcG (ghost W)) (g0 : ∃ l : List Int, Sl (ghost W) 1 (IntR .u8) v0 l) : LawCon Tryz.prog 6 #[v0] W := by
  obtain ⟨l, hs⟩ := g0
  exact segmReads_main hT.1 hT.2 hs
theorem clos_laid : laidOutB Tryz.prog = true := by kernel_rfl
theorem clos_rowed : mapsRowed Tryz.prog = true := by kernel_rfl
theorem clos_heard : Tryz.prog.stopsHeard = true := by kernel_rfl
theorem clos_may : Tryz.prog.mayEnter = true := by kernel_rfl
theorem clos_lifts : (Rows.segmHeadsRow.lifted == Tryz.prog.liftsFinal) = true := by kernel_rfl
theorem clos_make : (Tryz.prog.make == some Rows.segmHeadsRow.make) = true := by kernel_rfl
theorem clos_plain : (Rows.segmHeadsRow.plainKeys == Tryz.prog.plainKeys) = true := by kernel_rfl
theorem clos_main : Tryz.prog.mainIs = some (true, "ff985d4a2c195d2b053ff752d8f9403905b3d56cfab988831be32c96f38effc7".toList) := by kernel_rfl
theorem clos_looks : true = Tryz.prog.looks [] := by kernel_rfl
theorem segmReads_own : ownKnob Tryz.prog.godebug = none := by kernel_rfl
theorem segmReads_laidOut : laidOutB Tryz.prog = true := clos_laid
theorem segmReads_spec : LawSpec Rows.segmReadsSpec 1 := ⟨rfl, fun H ds h => by match ds, h with | [d0], _ => rfl⟩
set_option maxRecDepth 100000 in
theorem segmReads_lifted (os : Os) (started : os.Started) (H : Type) (enc : TypeId × Value → H) :
    ReturnsInHanded {} Tryz.checked os 6 .any (fun w args => (Rows.segmReadsSpec.pre enc Tryz.prog Tryz.f6 Rows.segmReadsRow.domain false w args ∧ laidMetH Tryz.prog tabsLaid3 w) ∧ sizedMet enc Tryz.prog Tryz.f6 (OpenSpec.ofChange Rows.segmReadsSpec) false w args)
      (Rows.segmReadsSpec.post enc Tryz.prog Tryz.f6 false true false false) := by
  refine returnsInHanded_of_change_and (C := Tryz.checked) (X := fun w _ => laidMetH Tryz.prog tabsLaid3 w) (fun _ _ _ hh h => h.of_heap hh) segmReads_own started (by kernel_rfl) Tryz.func6
    (ChangeSpec.witness_shaped (enc := enc) (C := Tryz.checked) (os := os) (X := fun w _ => laidMetH Tryz.prog tabsLaid3 w) false (World.laidAll Tryz.prog os tabsLaid3) #[.slice none 0 0] 8 (World.laidAll_os _ _ _)
      (World.shaped_of_ZipB (by kernel_rfl) (by kernel_rfl)) (by kernel_rfl) (by kernel_rfl) (by kernel_rfl)
      (by rw [MakeChecks.laidMetH_plain _ _ _ tabs3_plain]; exact laidMet_laidAll _ (by kernel_rfl) (by kernel_rfl))) ?_
  intro W base args ds gs before hval0 hW hcnd _ hL _
  have hval : ∀ (j : Nat) t v, Tryz.f6.params[j]? = some t → args[j]? = some v → Value.okWide Tryz.prog W .any base t v := hval0
  refine law_post segmReads_laidOut Tryz.underlying4 rfl segmReads_spec rfl (by kernel_rfl) hW ?_
  obtain ⟨p, q, hA0, hV, rfl, hfz, hnd⟩ := hW
  have hA : DataW.TrodAll enc Tryz.prog W 0 (fun _ => true) true Tryz.f6.params.toList args.toList ds p := hA0
  rw [Tryz.params6] at hA hval
  obtain ⟨v0, vs0, d0, ds0, p0, q0, hargs, rfl, rfl, h0, r0⟩ := trodAll_cons hA
  obtain ⟨rfl, rfl, rfl⟩ := trodAll_nil r0
  obtain rfl : args = #[v0] := by cases args; simp_all
  have g0 := arg_t24 (hval 0 24 v0 rfl rfl) h0
  exact segmReads_law (tabs3_of_laid hL) g0
theorem segmReads_c_inPlace : (Rows.segmReadsRow.inPlace == Tryz.prog.inPlace 6) = true := by kernel_rfl
theorem segmReads_c_unfollowed : (Rows.segmReadsRow.unfollowed == Tryz.prog.unfollowed 6) = true := by kernel_rfl
theorem segmReads_c_recurses : (Rows.segmReadsRow.recurses == Tryz.prog.recurses 6) = true := by kernel_rfl
theorem segmReads_c_named : (Rows.segmReadsRow.named == Tryz.prog.varsNamed 6) = true := by kernel_rfl
theorem segmReads_c_lifted : (Rows.segmReadsRow.lifted == Tryz.prog.liftsFinal) = true := clos_lifts
theorem segmReads_c_make : (Tryz.prog.make == some Rows.segmReadsRow.make) = true := clos_make
theorem segmReads_c_plainKeys : (Rows.segmReadsRow.plainKeys == Tryz.prog.plainKeys) = true := clos_plain
theorem segmReads_closed : joinedFacts Tryz.prog 6 Tryz.f6 Rows.segmReadsSpec Rows.segmReadsRow = true := by
  unfold joinedFacts
  rw [clos_laid, clos_rowed, clos_heard, clos_may, segmReads_c_inPlace, segmReads_c_unfollowed, segmReads_c_recurses, segmReads_c_named, segmReads_c_lifted, segmReads_c_make, segmReads_c_plainKeys]
  kernel_rfl
theorem segmReads_over : Rows.segmReadsRow.holds Tryz.pinned (OpenSpec.ofChange Rows.segmReadsSpec) :=
  OpenClaim.holds_of_wide 6 Tryz.f6 rfl rfl rfl rfl rfl rfl rfl ⟨rfl, rfl, rfl, rfl, rfl⟩ rfl rfl rfl rfl rfl (by kernel_rfl) Tryz.func6 segmReads_closed
    (of_decide_eq_true (by kernel_rfl)) (by unfold Func.isWrapper; first | (rw [if_pos (by decide +kernel)]; kernel_rfl) | (rw [if_neg (by decide +kernel)]; exact ⟨rfl, rfl⟩))
    (fun os started H enc _ => segmReads_lifted os started H enc)
theorem segmReads_holds : Rows.SegmReadsSaid := segmReads_over
theorem segmReads_c_wft : Rows.segmReadsRow.wfByText (OpenSpec.ofChange Rows.segmReadsSpec) = true := by kernel_rfl
theorem segmReads_c_func : Tryz.prog.funcNamed Rows.segmReadsRow.func = some 6 := by kernel_rfl
theorem segmReads_c_stand : ([24].all fun u => !Tryz.prog.wantsStandIn u) = true := by kernel_rfl
theorem segmReads_c_goes : false = Rows.segmReadsRow.goesBy Tryz.prog := by kernel_rfl
theorem segmReadsCard_holds : Rows.SegmReadsCardSaid :=
  Claim7.holds_tied_plain_at .later [] [.data, .data, .pinned] true (true, "ff985d4a2c195d2b053ff752d8f9403905b3d56cfab988831be32c96f38effc7") true segmReads_holds (fun _ h => by cases h) segmReads_c_wft (fun _ h => by cases h) segmReads_row_tie rfl ⟨rfl, rfl⟩ clos_main rfl
    (fun f fn hf hfn => by
      obtain rfl : f = 6 := Option.some.inj (segmReads_c_func.symm.trans hf) |>.symm
      obtain rfl : fn = Tryz.f6 := (Option.some.inj (Tryz.func6.symm.trans hfn)).symm
      exact ⟨clos_looks, fun j t ht => by
        rw [Tryz.params6] at ht
        have hm : t ∈ [24] := by simpa using Array.mem_of_getElem? ht
        exact (show Tryz.prog.wantsStandIn t = false by simpa using List.all_eq_true.1 segmReads_c_stand t hm)⟩)
    segmReads_c_goes
end Go.Proofs.YtpemabgfmnhhnaaGreatDoor
