/-
  The reference 23: the walk of Do. (Printed by genD.py.)
-/
import Derived.Test.YtmdeeokejdkceaaGreatDoorM4
import Derived.Test.YtmdeeokejdkceaaGreatDoorM1
import Derived.Shelf.Slices.SearchI
import Derived.Shelf.Slices.Delete
import Derived.Shelf.Spec.SlicesInsert
import Derived.Shelf.Spec.SlicesInsertGrow
set_option linter.unusedSimpArgs false
set_option linter.unusedVariables false
namespace Go.Proofs.YtmdeeokejdkceaaGreatDoor
open Go.Vx Go.ChangeShapes Go.WideShapes Go.ChangeAt Go.RowKit
abbrev DoPost (G : GH) (o : List Pr × An) : Value → GH → OH → Prop := fun r G' μ' => GH.le G G' ∧ μ' = [] ∧ ∃ v', r = .tuple [v', .agg o.2.cells.toArray].toArray ∧ Prs G' v' o.1
theorem doN1 {G : GH} {l : List Pr} {A : Option Addr} {c : Nat} (kind client seq : Int) (key val old : ByteArray) (node : Int) (hs : Prs G (.slice A l.length c) l) (hr : RiseW ksP l) (hz : Sized l) (hn : l.length ≤ 200) (hkz : key.size ≤ 200) (hk : 2 ≤ kind ∧ kind ≤ 5) (h5 : kind ≠ 5)
    (qp : Con Tryz.prog 224 #[.slice A l.length c, .string key] G [] (Just (.int .i64 (-1)) G)) :
    Con Tryz.prog 156 #[.int .i64 1, .slice A l.length c, .agg (Cm.cells ⟨kind, client, seq, key, val, old, node⟩).toArray] G [] (DoPost G (if kind = 2 then (if 64 ≤ l.length then (l, ⟨client, seq, 11, false, ByteArray.empty, 0⟩) else (withG ksP l ⟨key, val, 0⟩, ⟨client, seq, 0, false, ByteArray.empty, 0⟩)) else if kind = 4 then (l.filter (fun x => decide (ksP x ≠ kn key)), ⟨client, seq, 0, false, ByteArray.empty, 0⟩) else if kind = 5 then (l, ⟨client, seq, 10, false, ByteArray.empty, 0⟩) else (l, ⟨client, seq, 0, false, ByteArray.empty, 0⟩) : List Pr × An)) := by
  obtain ⟨B0, e0, e, hlc, hcm, hsome, hcp⟩ := rowOpen hs
  cases e
  simp only [maxLen] at hcm
  have qw := refPWith_s ⟨key, val, 0⟩ hs hr hn hz hkz
  have qo := refWithout_s key hs hn hz hkz
  have hdf : dec ((0 : Int) ≤ -1) = false := dec_neg (by omega)
  (refine v_enter Tryz.func156 rfl Tryz.ntmps156 rfl ?_; intro B _)
  repeat' (first | (apply v_box (d := 5) (zs := Cm.cells ⟨kind, client, seq, key, val, old, node⟩); (case hx => rfl); (case hz => rfl); (case hd => rfl); intro b5) | (apply v_alloc (d := 7); (case hz => rfl); (case hd => rfl); intro b7) | (apply v_alloc (d := 8); (case hz => rfl); (case hd => rfl); intro b8) | (apply v_alloc (d := 10); (case hz => rfl); (case hd => rfl); intro b10) | (apply v_alloc (d := 11); (case hz => rfl); (case hd => rfl); intro b11) | (apply v_read; (case hop => (apply r_loadNo; (case hx => rfl); (case h => repeat (exact mhd _)); (case hd => rfl); (case hn => rfl))); (case hd => rfl)) | apply v_seq | apply v_region | apply v_nil | apply v_skip | apply v_block | apply v_blk | (apply v_take; (case hg => rfl)) | (apply v_pass; (case hg => rfl); (case hn => rfl); (case hd => rfl)) | (apply v_pure; (case hop => first | (apply p_move <;> rfl) | (apply p_eq <;> rfl) | (apply p_lt <;> rfl) | (apply p_ne <;> rfl) | (apply p_ge <;> rfl) | (apply p_assign <;> rfl) | (apply p_pickT <;> rfl) | (apply p_pickF <;> rfl) | (apply p_lenSlice <;> rfl) | (apply p_fieldAddrB <;> rfl) | (apply p_build; (case hz => rfl); (case hv => (simp only [List.map_cons, List.map_nil]; repeat (first | with_reducible exact evs_nil | (apply evs_cons; (case h1 => rfl))))); (case hb => (apply bldL; repeat (first | exact bld_nil | (apply bld_cons; (case hpf => rfl); (case hc => rfl); (case hs => rfl); (case hl => rfl); (case ho => ((repeat (first | with_reducible exact ov_nil | apply ov_cons)); done))))))) | fail); (case hd => rfl)) | (apply v_condF; (case hc => rfl)) | (apply v_cond; (case hc => rfl); all_goals (intro h; (try simp only [reduceCtorEq, zzz] at h); first | (exfalso; omega) | skip)) | (apply v_guardB; (case h1 => rfl); (case h2 => rfl); all_goals (intro h; (try simp only [reduceCtorEq, zzz] at h); first | (exfalso; omega) | skip)) | (apply v_callJ (hs := qp); (case ha => rfl); (case hd => rfl)) | (apply v_read; (case hop => (apply r_load1; rfl; (apply Cell.own; (case h => (repeat (first | exact mhd _ | apply mtl))); rfl))); (case hd => rfl)) | (apply v_store; (case hp => rfl); (case hx => rfl); (case hc => rfl); (case hsz => rfl); (case h1 => rfl); (case hb => (repeat (first | exact mhd _ | apply mtl))); (case hfit => exact nle rfl); (case hov => ((repeat (first | with_reducible exact ov_nil | apply ov_cons)); done)); (case hu => repeat (first | exact Upd.here _ _ | apply Upd.there))) | fail)
  · rw [if_pos (by assumption), if_pos (show 64 ≤ l.length by omega)]
    refine d_start [(b8, .cells [.int .i64 client, .int .i64 seq, .int .i64 11, .bool false, .string ByteArray.empty, .int .i64 0].toArray 40 (0, 0))] (by kernel_rfl) (by kernel_rfl) (by kernel_rfl) (by intro e he; (simp at he; simp [he]; done)) ?_
    all_goals (apply dtk 0; (case hi => rfl); (case hop => (apply prd; apply p_move <;> rfl)); (case hq => kernel_rfl))
    all_goals (apply dtk 1; (case hi => rfl); (case hop => first | (apply r_loadNo; (case hx => rfl); (case h => (repeat (exact mhd _))); (case hd => (repeat (first | with_reducible exact dt_nil | apply dt_here))); (case hn => rfl)) | (apply r_load1; rfl; (apply Cell.own; (case h => (repeat (fail))); rfl)) | (apply r_loadN; rfl; (apply CellsAt.own; (case h => (repeat (fail)))); rfl)); (case hq => kernel_rfl))
    all_goals (apply dtk 2; (case hi => rfl); (case hop => (apply prd; apply p_assign <;> rfl)); (case hq => kernel_rfl))
    all_goals (apply d_store 3; (case hi => rfl); (case hr => kernel_rfl); (case hL => infer_instance); (case hp => rfl); (case hx => rfl); (case hc => rfl); (case hsz => rfl); (case h1 => rfl); (case hb => (repeat (first | exact mhd _ | apply mtl))); (case hfit => exact nle rfl); (case hov => ((repeat (first | with_reducible exact ov_nil | apply ov_cons)); done)); (case hu => repeat (first | exact Upd.here _ _ | apply Upd.there)); (case hν' => intro e he; (simp at he; simp [he]; done)))
    all_goals (apply d_done; (case hr => kernel_rfl))
    repeat' (fail)
    refine v_retM [] (outsM_tc (sz1 := 6) (vs1 := [.int .i64 client, .int .i64 seq, .int .i64 11, .bool false, .string ByteArray.empty, .int .i64 0]) (e1 := 40) rfl rfl rfl (by repeat (first | exact mhd _ | apply mtl)) rfl) (List.nil_sublist _) ⟨GH.le_refl _, rfl, _, rfl, hs⟩
  · rw [if_pos (by assumption), if_neg (show ¬ 64 ≤ l.length by omega)]
    refine v_call (μ1 := []) rfl qw (List.Perm.refl _) rfl ?_
    rintro v3 G3 _ hle3 ⟨-, rfl, hw3⟩
    repeat' (first | apply v_seq | apply v_region | apply v_nil | apply v_blk | (apply v_pure; (case hop => first | (apply p_move <;> rfl) | (apply p_ge <;> rfl) | (apply p_assign <;> rfl) | (apply p_fieldAddrB <;> rfl) | fail); (case hd => rfl)) | (apply v_read; (case hop => (apply r_load1; rfl; (apply Cell.own; (case h => (repeat (first | exact mhd _ | apply mtl))); rfl))); (case hd => rfl)) | (apply v_store; (case hp => rfl); (case hx => rfl); (case hc => rfl); (case hsz => rfl); (case h1 => rfl); (case hb => (repeat (first | exact mhd _ | apply mtl))); (case hfit => exact nle rfl); (case hov => ((repeat (first | with_reducible exact ov_nil | apply ov_cons)); done)); (case hu => repeat (first | exact Upd.here _ _ | apply Upd.there))) | fail)
    try rw [hdf]
    refine d_start [(b8, .cells [.int .i64 client, .int .i64 seq, .int .i64 0, .bool false, .string ByteArray.empty, .int .i64 0].toArray 40 (0, 0))] (by kernel_rfl) (by kernel_rfl) (by kernel_rfl) (by intro e he; (simp at he; simp [he]; done)) ?_
    all_goals (apply dtk 0; (case hi => rfl); (case hop => (apply prd; apply p_move <;> rfl)); (case hq => kernel_rfl))
    all_goals (apply dtk 1; (case hi => rfl); (case hop => first | (apply r_loadNo; (case hx => rfl); (case h => (repeat (exact mhd _))); (case hd => (repeat (first | with_reducible exact dt_nil | apply dt_here))); (case hn => rfl)) | (apply r_load1; rfl; (apply Cell.own; (case h => (repeat (fail))); rfl)) | (apply r_loadN; rfl; (apply CellsAt.own; (case h => (repeat (fail)))); rfl)); (case hq => kernel_rfl))
    all_goals (apply dtk 2; (case hi => rfl); (case hop => (apply prd; apply p_assign <;> rfl)); (case hq => kernel_rfl))
    all_goals (apply d_store 3; (case hi => rfl); (case hr => kernel_rfl); (case hL => infer_instance); (case hp => rfl); (case hx => rfl); (case hc => rfl); (case hsz => rfl); (case h1 => rfl); (case hb => (repeat (first | exact mhd _ | apply mtl))); (case hfit => exact nle rfl); (case hov => ((repeat (first | with_reducible exact ov_nil | apply ov_cons)); done)); (case hu => repeat (first | exact Upd.here _ _ | apply Upd.there)); (case hν' => intro e he; (simp at he; simp [he]; done)))
    all_goals (apply d_done; (case hr => kernel_rfl))
    repeat' (fail)
    refine v_retM [] (outsM_tc (sz1 := 6) (vs1 := [.int .i64 client, .int .i64 seq, .int .i64 0, .bool false, .string ByteArray.empty, .int .i64 0]) (e1 := 40) rfl rfl rfl (by repeat (first | exact mhd _ | apply mtl)) rfl) (List.nil_sublist _) ⟨hle3, rfl, _, rfl, hw3⟩
  · rw [if_neg (by assumption), if_pos (by assumption)]
    refine v_call (μ1 := []) rfl qo (List.Perm.refl _) rfl ?_
    rintro v3 G3 _ hle3 ⟨-, rfl, hw3⟩
    repeat' (first | apply v_seq | apply v_region | apply v_nil | apply v_blk | (apply v_pure; (case hop => first | (apply p_move <;> rfl) | (apply p_ge <;> rfl) | (apply p_assign <;> rfl) | (apply p_fieldAddrB <;> rfl) | fail); (case hd => rfl)) | (apply v_read; (case hop => (apply r_load1; rfl; (apply Cell.own; (case h => (repeat (first | exact mhd _ | apply mtl))); rfl))); (case hd => rfl)) | (apply v_store; (case hp => rfl); (case hx => rfl); (case hc => rfl); (case hsz => rfl); (case h1 => rfl); (case hb => (repeat (first | exact mhd _ | apply mtl))); (case hfit => exact nle rfl); (case hov => ((repeat (first | with_reducible exact ov_nil | apply ov_cons)); done)); (case hu => repeat (first | exact Upd.here _ _ | apply Upd.there))) | fail)
    try rw [hdf]
    refine d_start [(b8, .cells [.int .i64 client, .int .i64 seq, .int .i64 0, .bool false, .string ByteArray.empty, .int .i64 0].toArray 40 (0, 0))] (by kernel_rfl) (by kernel_rfl) (by kernel_rfl) (by intro e he; (simp at he; simp [he]; done)) ?_
    all_goals (apply dtk 0; (case hi => rfl); (case hop => (apply prd; apply p_move <;> rfl)); (case hq => kernel_rfl))
    all_goals (apply dtk 1; (case hi => rfl); (case hop => first | (apply r_loadNo; (case hx => rfl); (case h => (repeat (exact mhd _))); (case hd => (repeat (first | with_reducible exact dt_nil | apply dt_here))); (case hn => rfl)) | (apply r_load1; rfl; (apply Cell.own; (case h => (repeat (fail))); rfl)) | (apply r_loadN; rfl; (apply CellsAt.own; (case h => (repeat (fail)))); rfl)); (case hq => kernel_rfl))
    all_goals (apply dtk 2; (case hi => rfl); (case hop => (apply prd; apply p_assign <;> rfl)); (case hq => kernel_rfl))
    all_goals (apply d_store 3; (case hi => rfl); (case hr => kernel_rfl); (case hL => infer_instance); (case hp => rfl); (case hx => rfl); (case hc => rfl); (case hsz => rfl); (case h1 => rfl); (case hb => (repeat (first | exact mhd _ | apply mtl))); (case hfit => exact nle rfl); (case hov => ((repeat (first | with_reducible exact ov_nil | apply ov_cons)); done)); (case hu => repeat (first | exact Upd.here _ _ | apply Upd.there)); (case hν' => intro e he; (simp at he; simp [he]; done)))
    all_goals (apply d_done; (case hr => kernel_rfl))
    repeat' (fail)
    refine v_retM [] (outsM_tc (sz1 := 6) (vs1 := [.int .i64 client, .int .i64 seq, .int .i64 0, .bool false, .string ByteArray.empty, .int .i64 0]) (e1 := 40) rfl rfl rfl (by repeat (first | exact mhd _ | apply mtl)) rfl) (List.nil_sublist _) ⟨hle3, rfl, _, rfl, hw3⟩
  · rw [if_neg (by assumption), if_neg (by assumption), if_neg (by assumption)]
    try rw [hdf]
    refine d_start [(b8, .cells [.int .i64 client, .int .i64 seq, .int .i64 0, .bool false, .string ByteArray.empty, .int .i64 0].toArray 40 (0, 0))] (by kernel_rfl) (by kernel_rfl) (by kernel_rfl) (by intro e he; (simp at he; simp [he]; done)) ?_
    all_goals (apply dtk 0; (case hi => rfl); (case hop => (apply prd; apply p_move <;> rfl)); (case hq => kernel_rfl))
    all_goals (apply dtk 1; (case hi => rfl); (case hop => first | (apply r_loadNo; (case hx => rfl); (case h => (repeat (exact mhd _))); (case hd => (repeat (first | with_reducible exact dt_nil | apply dt_here))); (case hn => rfl)) | (apply r_load1; rfl; (apply Cell.own; (case h => (repeat (fail))); rfl)) | (apply r_loadN; rfl; (apply CellsAt.own; (case h => (repeat (fail)))); rfl)); (case hq => kernel_rfl))
    all_goals (apply dtk 2; (case hi => rfl); (case hop => (apply prd; apply p_assign <;> rfl)); (case hq => kernel_rfl))
    all_goals (apply d_store 3; (case hi => rfl); (case hr => kernel_rfl); (case hL => infer_instance); (case hp => rfl); (case hx => rfl); (case hc => rfl); (case hsz => rfl); (case h1 => rfl); (case hb => (repeat (first | exact mhd _ | apply mtl))); (case hfit => exact nle rfl); (case hov => ((repeat (first | with_reducible exact ov_nil | apply ov_cons)); done)); (case hu => repeat (first | exact Upd.here _ _ | apply Upd.there)); (case hν' => intro e he; (simp at he; simp [he]; done)))
    all_goals (apply d_done; (case hr => kernel_rfl))
    repeat' (fail)
    refine v_retM [] (outsM_tc (sz1 := 6) (vs1 := [.int .i64 client, .int .i64 seq, .int .i64 0, .bool false, .string ByteArray.empty, .int .i64 0]) (e1 := 40) rfl rfl rfl (by repeat (first | exact mhd _ | apply mtl)) rfl) (List.nil_sublist _) ⟨GH.le_refl _, rfl, _, rfl, hs⟩
theorem doN2 {G : GH} {l : List Pr} {A : Option Addr} {c : Nat} (kind client seq : Int) (key val old : ByteArray) (node : Int) (hs : Prs G (.slice A l.length c) l) (hr : RiseW ksP l) (hz : Sized l) (hn : l.length ≤ 200) (hkz : key.size ≤ 200) (hk : 2 ≤ kind ∧ kind ≤ 5)
    (qp : Con Tryz.prog 224 #[.slice A l.length c, .string key] G [] (Just (.int .i64 (-1)) G)) :
    Con Tryz.prog 156 #[.int .i64 2, .slice A l.length c, .agg (Cm.cells ⟨kind, client, seq, key, val, old, node⟩).toArray] G [] (DoPost G (if kind = 2 then (if 64 ≤ l.length then (l, ⟨client, seq, 11, false, ByteArray.empty, 0⟩) else (withG ksP l ⟨key, val, 1⟩, ⟨client, seq, 0, false, ByteArray.empty, 0⟩)) else if kind = 4 then (l.filter (fun x => decide (ksP x ≠ kn key)), ⟨client, seq, 0, false, ByteArray.empty, 0⟩) else if kind = 5 then (l, ⟨client, seq, 10, false, ByteArray.empty, 0⟩) else (l, ⟨client, seq, 0, false, ByteArray.empty, 0⟩) : List Pr × An)) := by
  obtain ⟨B0, e0, e, hlc, hcm, hsome, hcp⟩ := rowOpen hs
  cases e
  simp only [maxLen] at hcm
  have qw := refPWith_s ⟨key, val, 1⟩ hs hr hn hz hkz
  have qo := refWithout_s key hs hn hz hkz
  have hdf : dec ((0 : Int) ≤ -1) = false := dec_neg (by omega)
  (refine v_enter Tryz.func156 rfl Tryz.ntmps156 rfl ?_; intro B _)
  repeat' (first | (apply v_box (d := 5) (zs := Cm.cells ⟨kind, client, seq, key, val, old, node⟩); (case hx => rfl); (case hz => rfl); (case hd => rfl); intro b5) | (apply v_alloc (d := 7); (case hz => rfl); (case hd => rfl); intro b7) | (apply v_alloc (d := 8); (case hz => rfl); (case hd => rfl); intro b8) | (apply v_alloc (d := 10); (case hz => rfl); (case hd => rfl); intro b10) | (apply v_alloc (d := 11); (case hz => rfl); (case hd => rfl); intro b11) | (apply v_read; (case hop => (apply r_loadNo; (case hx => rfl); (case h => repeat (exact mhd _)); (case hd => rfl); (case hn => rfl))); (case hd => rfl)) | apply v_seq | apply v_region | apply v_nil | apply v_skip | apply v_block | apply v_blk | (apply v_take; (case hg => rfl)) | (apply v_pass; (case hg => rfl); (case hn => rfl); (case hd => rfl)) | (apply v_pure; (case hop => first | (apply p_move <;> rfl) | (apply p_eqs <;> rfl) | (apply p_eq <;> rfl) | (apply p_lt <;> rfl) | (apply p_ne <;> rfl) | (apply p_ge <;> rfl) | (apply p_assign <;> rfl) | (apply p_pickT <;> rfl) | (apply p_pickF <;> rfl) | (apply p_lenSlice <;> rfl) | (apply p_fieldAddrB <;> rfl) | (apply p_build; (case hz => rfl); (case hv => (simp only [List.map_cons, List.map_nil]; repeat (first | with_reducible exact evs_nil | (apply evs_cons; (case h1 => rfl))))); (case hb => (apply bldL; repeat (first | exact bld_nil | (apply bld_cons; (case hpf => rfl); (case hc => rfl); (case hs => rfl); (case hl => rfl); (case ho => ((repeat (first | with_reducible exact ov_nil | apply ov_cons)); done))))))) | fail); (case hd => rfl)) | (apply v_condT; (case hc => rfl)) | (apply v_condF; (case hc => rfl)) | (apply v_cond; (case hc => rfl); all_goals (intro h; (try simp only [reduceCtorEq, zzz] at h); first | (exfalso; omega) | skip)) | (apply v_guardB; (case h1 => rfl); (case h2 => rfl); all_goals (intro h; (try simp only [reduceCtorEq, zzz] at h); first | (exfalso; omega) | skip)) | (apply v_callJ (hs := qp); (case ha => rfl); (case hd => rfl)) | (apply v_read; (case hop => (apply r_load1; rfl; (apply Cell.own; (case h => (repeat (first | exact mhd _ | apply mtl))); rfl))); (case hd => rfl)) | (apply v_store; (case hp => rfl); (case hx => rfl); (case hc => rfl); (case hsz => rfl); (case h1 => rfl); (case hb => (repeat (first | exact mhd _ | apply mtl))); (case hfit => exact nle rfl); (case hov => ((repeat (first | with_reducible exact ov_nil | apply ov_cons)); done)); (case hu => repeat (first | exact Upd.here _ _ | apply Upd.there))) | fail)
  · rw [if_pos (by assumption), if_pos (show 64 ≤ l.length by omega)]
    refine d_start [(b8, .cells [.int .i64 client, .int .i64 seq, .int .i64 11, .bool false, .string ByteArray.empty, .int .i64 0].toArray 40 (0, 0))] (by kernel_rfl) (by kernel_rfl) (by kernel_rfl) (by intro e he; (simp at he; simp [he]; done)) ?_
    all_goals (apply dtk 0; (case hi => rfl); (case hop => (apply prd; apply p_move <;> rfl)); (case hq => kernel_rfl))
    all_goals (apply dtk 1; (case hi => rfl); (case hop => first | (apply r_loadNo; (case hx => rfl); (case h => (repeat (exact mhd _))); (case hd => (repeat (first | with_reducible exact dt_nil | apply dt_here))); (case hn => rfl)) | (apply r_load1; rfl; (apply Cell.own; (case h => (repeat (fail))); rfl)) | (apply r_loadN; rfl; (apply CellsAt.own; (case h => (repeat (fail)))); rfl)); (case hq => kernel_rfl))
    all_goals (apply dtk 2; (case hi => rfl); (case hop => (apply prd; apply p_assign <;> rfl)); (case hq => kernel_rfl))
    all_goals (apply d_store 3; (case hi => rfl); (case hr => kernel_rfl); (case hL => infer_instance); (case hp => rfl); (case hx => rfl); (case hc => rfl); (case hsz => rfl); (case h1 => rfl); (case hb => (repeat (first | exact mhd _ | apply mtl))); (case hfit => exact nle rfl); (case hov => ((repeat (first | with_reducible exact ov_nil | apply ov_cons)); done)); (case hu => repeat (first | exact Upd.here _ _ | apply Upd.there)); (case hν' => intro e he; (simp at he; simp [he]; done)))
    all_goals (apply d_done; (case hr => kernel_rfl))
    repeat' (fail)
    refine v_retM [] (outsM_tc (sz1 := 6) (vs1 := [.int .i64 client, .int .i64 seq, .int .i64 11, .bool false, .string ByteArray.empty, .int .i64 0]) (e1 := 40) rfl rfl rfl (by repeat (first | exact mhd _ | apply mtl)) rfl) (List.nil_sublist _) ⟨GH.le_refl _, rfl, _, rfl, hs⟩
  · rw [if_pos (by assumption), if_neg (show ¬ 64 ≤ l.length by omega)]
    refine v_call (μ1 := []) rfl qw (List.Perm.refl _) rfl ?_
    rintro v3 G3 _ hle3 ⟨-, rfl, hw3⟩
    repeat' (first | apply v_seq | apply v_region | apply v_nil | apply v_blk | (apply v_pure; (case hop => first | (apply p_move <;> rfl) | (apply p_ge <;> rfl) | (apply p_assign <;> rfl) | (apply p_fieldAddrB <;> rfl) | fail); (case hd => rfl)) | (apply v_read; (case hop => (apply r_load1; rfl; (apply Cell.own; (case h => (repeat (first | exact mhd _ | apply mtl))); rfl))); (case hd => rfl)) | (apply v_store; (case hp => rfl); (case hx => rfl); (case hc => rfl); (case hsz => rfl); (case h1 => rfl); (case hb => (repeat (first | exact mhd _ | apply mtl))); (case hfit => exact nle rfl); (case hov => ((repeat (first | with_reducible exact ov_nil | apply ov_cons)); done)); (case hu => repeat (first | exact Upd.here _ _ | apply Upd.there))) | fail)
    try rw [hdf]
    refine d_start [(b8, .cells [.int .i64 client, .int .i64 seq, .int .i64 0, .bool false, .string ByteArray.empty, .int .i64 0].toArray 40 (0, 0))] (by kernel_rfl) (by kernel_rfl) (by kernel_rfl) (by intro e he; (simp at he; simp [he]; done)) ?_
    all_goals (apply dtk 0; (case hi => rfl); (case hop => (apply prd; apply p_move <;> rfl)); (case hq => kernel_rfl))
    all_goals (apply dtk 1; (case hi => rfl); (case hop => first | (apply r_loadNo; (case hx => rfl); (case h => (repeat (exact mhd _))); (case hd => (repeat (first | with_reducible exact dt_nil | apply dt_here))); (case hn => rfl)) | (apply r_load1; rfl; (apply Cell.own; (case h => (repeat (fail))); rfl)) | (apply r_loadN; rfl; (apply CellsAt.own; (case h => (repeat (fail)))); rfl)); (case hq => kernel_rfl))
    all_goals (apply dtk 2; (case hi => rfl); (case hop => (apply prd; apply p_assign <;> rfl)); (case hq => kernel_rfl))
    all_goals (apply d_store 3; (case hi => rfl); (case hr => kernel_rfl); (case hL => infer_instance); (case hp => rfl); (case hx => rfl); (case hc => rfl); (case hsz => rfl); (case h1 => rfl); (case hb => (repeat (first | exact mhd _ | apply mtl))); (case hfit => exact nle rfl); (case hov => ((repeat (first | with_reducible exact ov_nil | apply ov_cons)); done)); (case hu => repeat (first | exact Upd.here _ _ | apply Upd.there)); (case hν' => intro e he; (simp at he; simp [he]; done)))
    all_goals (apply d_done; (case hr => kernel_rfl))
    repeat' (fail)
    refine v_retM [] (outsM_tc (sz1 := 6) (vs1 := [.int .i64 client, .int .i64 seq, .int .i64 0, .bool false, .string ByteArray.empty, .int .i64 0]) (e1 := 40) rfl rfl rfl (by repeat (first | exact mhd _ | apply mtl)) rfl) (List.nil_sublist _) ⟨hle3, rfl, _, rfl, hw3⟩
  · rw [if_neg (by assumption), if_pos (by assumption)]
    refine v_call (μ1 := []) rfl qo (List.Perm.refl _) rfl ?_
    rintro v3 G3 _ hle3 ⟨-, rfl, hw3⟩
    repeat' (first | apply v_seq | apply v_region | apply v_nil | apply v_blk | (apply v_pure; (case hop => first | (apply p_move <;> rfl) | (apply p_ge <;> rfl) | (apply p_assign <;> rfl) | (apply p_fieldAddrB <;> rfl) | fail); (case hd => rfl)) | (apply v_read; (case hop => (apply r_load1; rfl; (apply Cell.own; (case h => (repeat (first | exact mhd _ | apply mtl))); rfl))); (case hd => rfl)) | (apply v_store; (case hp => rfl); (case hx => rfl); (case hc => rfl); (case hsz => rfl); (case h1 => rfl); (case hb => (repeat (first | exact mhd _ | apply mtl))); (case hfit => exact nle rfl); (case hov => ((repeat (first | with_reducible exact ov_nil | apply ov_cons)); done)); (case hu => repeat (first | exact Upd.here _ _ | apply Upd.there))) | fail)
    try rw [hdf]
    refine d_start [(b8, .cells [.int .i64 client, .int .i64 seq, .int .i64 0, .bool false, .string ByteArray.empty, .int .i64 0].toArray 40 (0, 0))] (by kernel_rfl) (by kernel_rfl) (by kernel_rfl) (by intro e he; (simp at he; simp [he]; done)) ?_
    all_goals (apply dtk 0; (case hi => rfl); (case hop => (apply prd; apply p_move <;> rfl)); (case hq => kernel_rfl))
    all_goals (apply dtk 1; (case hi => rfl); (case hop => first | (apply r_loadNo; (case hx => rfl); (case h => (repeat (exact mhd _))); (case hd => (repeat (first | with_reducible exact dt_nil | apply dt_here))); (case hn => rfl)) | (apply r_load1; rfl; (apply Cell.own; (case h => (repeat (fail))); rfl)) | (apply r_loadN; rfl; (apply CellsAt.own; (case h => (repeat (fail)))); rfl)); (case hq => kernel_rfl))
    all_goals (apply dtk 2; (case hi => rfl); (case hop => (apply prd; apply p_assign <;> rfl)); (case hq => kernel_rfl))
    all_goals (apply d_store 3; (case hi => rfl); (case hr => kernel_rfl); (case hL => infer_instance); (case hp => rfl); (case hx => rfl); (case hc => rfl); (case hsz => rfl); (case h1 => rfl); (case hb => (repeat (first | exact mhd _ | apply mtl))); (case hfit => exact nle rfl); (case hov => ((repeat (first | with_reducible exact ov_nil | apply ov_cons)); done)); (case hu => repeat (first | exact Upd.here _ _ | apply Upd.there)); (case hν' => intro e he; (simp at he; simp [he]; done)))
    all_goals (apply d_done; (case hr => kernel_rfl))
    repeat' (fail)
    refine v_retM [] (outsM_tc (sz1 := 6) (vs1 := [.int .i64 client, .int .i64 seq, .int .i64 0, .bool false, .string ByteArray.empty, .int .i64 0]) (e1 := 40) rfl rfl rfl (by repeat (first | exact mhd _ | apply mtl)) rfl) (List.nil_sublist _) ⟨hle3, rfl, _, rfl, hw3⟩
  · rw [if_neg (by assumption), if_neg (by assumption), if_pos (by assumption)]
    try rw [hdf]
    refine d_start [(b8, .cells [.int .i64 client, .int .i64 seq, .int .i64 10, .bool false, .string ByteArray.empty, .int .i64 0].toArray 40 (0, 0))] (by kernel_rfl) (by kernel_rfl) (by kernel_rfl) (by intro e he; (simp at he; simp [he]; done)) ?_
    all_goals (apply dtk 0; (case hi => rfl); (case hop => (apply prd; apply p_move <;> rfl)); (case hq => kernel_rfl))
    all_goals (apply dtk 1; (case hi => rfl); (case hop => first | (apply r_loadNo; (case hx => rfl); (case h => (repeat (exact mhd _))); (case hd => (repeat (first | with_reducible exact dt_nil | apply dt_here))); (case hn => rfl)) | (apply r_load1; rfl; (apply Cell.own; (case h => (repeat (fail))); rfl)) | (apply r_loadN; rfl; (apply CellsAt.own; (case h => (repeat (fail)))); rfl)); (case hq => kernel_rfl))
    all_goals (apply dtk 2; (case hi => rfl); (case hop => (apply prd; apply p_assign <;> rfl)); (case hq => kernel_rfl))
    all_goals (apply d_store 3; (case hi => rfl); (case hr => kernel_rfl); (case hL => infer_instance); (case hp => rfl); (case hx => rfl); (case hc => rfl); (case hsz => rfl); (case h1 => rfl); (case hb => (repeat (first | exact mhd _ | apply mtl))); (case hfit => exact nle rfl); (case hov => ((repeat (first | with_reducible exact ov_nil | apply ov_cons)); done)); (case hu => repeat (first | exact Upd.here _ _ | apply Upd.there)); (case hν' => intro e he; (simp at he; simp [he]; done)))
    all_goals (apply d_done; (case hr => kernel_rfl))
    repeat' (fail)
    refine v_retM [] (outsM_tc (sz1 := 6) (vs1 := [.int .i64 client, .int .i64 seq, .int .i64 10, .bool false, .string ByteArray.empty, .int .i64 0]) (e1 := 40) rfl rfl rfl (by repeat (first | exact mhd _ | apply mtl)) rfl) (List.nil_sublist _) ⟨GH.le_refl _, rfl, _, rfl, hs⟩
  · rw [if_neg (by assumption), if_neg (by assumption), if_neg (by assumption)]
    try rw [hdf]
    refine d_start [(b8, .cells [.int .i64 client, .int .i64 seq, .int .i64 0, .bool false, .string ByteArray.empty, .int .i64 0].toArray 40 (0, 0))] (by kernel_rfl) (by kernel_rfl) (by kernel_rfl) (by intro e he; (simp at he; simp [he]; done)) ?_
    all_goals (apply dtk 0; (case hi => rfl); (case hop => (apply prd; apply p_move <;> rfl)); (case hq => kernel_rfl))
    all_goals (apply dtk 1; (case hi => rfl); (case hop => first | (apply r_loadNo; (case hx => rfl); (case h => (repeat (exact mhd _))); (case hd => (repeat (first | with_reducible exact dt_nil | apply dt_here))); (case hn => rfl)) | (apply r_load1; rfl; (apply Cell.own; (case h => (repeat (fail))); rfl)) | (apply r_loadN; rfl; (apply CellsAt.own; (case h => (repeat (fail)))); rfl)); (case hq => kernel_rfl))
    all_goals (apply dtk 2; (case hi => rfl); (case hop => (apply prd; apply p_assign <;> rfl)); (case hq => kernel_rfl))
    all_goals (apply d_store 3; (case hi => rfl); (case hr => kernel_rfl); (case hL => infer_instance); (case hp => rfl); (case hx => rfl); (case hc => rfl); (case hsz => rfl); (case h1 => rfl); (case hb => (repeat (first | exact mhd _ | apply mtl))); (case hfit => exact nle rfl); (case hov => ((repeat (first | with_reducible exact ov_nil | apply ov_cons)); done)); (case hu => repeat (first | exact Upd.here _ _ | apply Upd.there)); (case hν' => intro e he; (simp at he; simp [he]; done)))
    all_goals (apply d_done; (case hr => kernel_rfl))
    repeat' (fail)
    refine v_retM [] (outsM_tc (sz1 := 6) (vs1 := [.int .i64 client, .int .i64 seq, .int .i64 0, .bool false, .string ByteArray.empty, .int .i64 0]) (e1 := 40) rfl rfl rfl (by repeat (first | exact mhd _ | apply mtl)) rfl) (List.nil_sublist _) ⟨GH.le_refl _, rfl, _, rfl, hs⟩
theorem doH1 {G : GH} {l : List Pr} {A : Option Addr} {c : Nat} (kind client seq : Int) (key val old : ByteArray) (node : Int) (hs : Prs G (.slice A l.length c) l) (hr : RiseW ksP l) (hz : Sized l) (hn : l.length ≤ 200) (hkz : key.size ≤ 200) (hk : 2 ≤ kind ∧ kind ≤ 5) (h5 : kind ≠ 5) (i : Nat) (hi : i < l.length) (f : Pr) (hck : CellsG G ((adr A).add (i * 3)) f.cells)
    (qp : Con Tryz.prog 224 #[.slice A l.length c, .string key] G [] (Just (.int .i64 (i : Nat)) G)) :
    Con Tryz.prog 156 #[.int .i64 1, .slice A l.length c, .agg (Cm.cells ⟨kind, client, seq, key, val, old, node⟩).toArray] G [] (DoPost G (if kind = 2 then (withG ksP l ⟨key, val, 0⟩, ⟨client, seq, 0, true, f.val, 0⟩) else if kind = 4 then (l.filter (fun x => decide (ksP x ≠ kn key)), ⟨client, seq, 0, true, f.val, 0⟩) else if kind = 5 then (if f.val = old then (withG ksP l ⟨key, val, 0⟩, ⟨client, seq, 0, true, f.val, 0⟩) else (l, ⟨client, seq, 15, true, f.val, f.rev⟩)) else (l, ⟨client, seq, 0, true, f.val, 0⟩) : List Pr × An)) := by
  obtain ⟨B0, e0, e, hlc, hcm, hsome, hcp⟩ := rowOpen hs
  cases e
  simp only [maxLen] at hcm
  have qw := refPWith_s ⟨key, val, 0⟩ hs hr hn hz hkz
  have qo := refWithout_s key hs hn hz hkz
  have e1 : ((i : Nat) : Int).toNat = i := by omega
  have hA := hsome (by omega)
  skip
  have hdf : dec ((0 : Int) ≤ (i : Nat)) = true := dec_pos (by omega)
  (refine v_enter Tryz.func156 rfl Tryz.ntmps156 rfl ?_; intro B _)
  repeat' (first | (apply v_box (d := 5) (zs := Cm.cells ⟨kind, client, seq, key, val, old, node⟩); (case hx => rfl); (case hz => rfl); (case hd => rfl); intro b5) | (apply v_alloc (d := 7); (case hz => rfl); (case hd => rfl); intro b7) | (apply v_alloc (d := 8); (case hz => rfl); (case hd => rfl); intro b8) | (apply v_alloc (d := 10); (case hz => rfl); (case hd => rfl); intro b10) | (apply v_alloc (d := 11); (case hz => rfl); (case hd => rfl); intro b11) | (apply v_read; (case hop => (apply r_loadNo; (case hx => rfl); (case h => repeat (exact mhd _)); (case hd => rfl); (case hn => rfl))); (case hd => rfl)) | apply v_seq | apply v_region | apply v_nil | apply v_skip | apply v_block | apply v_blk | (apply v_take; (case hg => rfl)) | (apply v_pass; (case hg => rfl); (case hn => rfl); (case hd => rfl)) | (apply v_pure; (case hop => first | (apply p_move <;> rfl) | (apply p_eq <;> rfl) | (apply p_lt <;> rfl) | (apply p_ne <;> rfl) | (apply p_ge <;> rfl) | (apply p_assign <;> rfl) | (apply p_pickT <;> rfl) | (apply p_pickF <;> rfl) | (apply p_fieldAddrB <;> rfl) | (apply p_indexAddrS; (case hx => rfl); (case hi => rfl); (case h0 => omega); (case h => omega); (case hA => assumption)) | (apply p_build; (case hz => rfl); (case hv => (simp only [List.map_cons, List.map_nil]; repeat (first | with_reducible exact evs_nil | (apply evs_cons; (case h1 => rfl))))); (case hb => (apply bldL; repeat (first | exact bld_nil | (apply bld_cons; (case hpf => rfl); (case hc => rfl); (case hs => rfl); (case hl => rfl); (case ho => ((repeat (first | with_reducible exact ov_nil | apply ov_cons)); done))))))) | fail); (case hd => rfl)) | (apply v_condF; (case hc => rfl)) | (apply v_cond; (case hc => rfl); all_goals (intro h; (try simp only [reduceCtorEq, zzz] at h); first | (exfalso; omega) | skip)) | (apply v_guardB; (case h1 => rfl); (case h2 => rfl); all_goals (intro h; (try simp only [reduceCtorEq, zzz] at h); first | (exfalso; omega) | skip)) | (apply v_read; (case hop => (apply r_loadN; rfl; exact CellsAt.frozen hck; rfl)); (case hd => rfl)) | (apply v_callJ (hs := qp); (case ha => rfl); (case hd => rfl)) | (apply v_read; (case hop => (apply r_load1; rfl; (apply Cell.own; (case h => (repeat (first | exact mhd _ | apply mtl))); rfl))); (case hd => rfl)) | (apply v_store; (case hp => rfl); (case hx => rfl); (case hc => rfl); (case hsz => rfl); (case h1 => rfl); (case hb => (repeat (first | exact mhd _ | apply mtl))); (case hfit => exact nle rfl); (case hov => ((repeat (first | with_reducible exact ov_nil | apply ov_cons)); done)); (case hu => repeat (first | exact Upd.here _ _ | apply Upd.there))) | fail)
  · rw [if_pos (by assumption)]
    refine v_call (μ1 := []) rfl qw (List.Perm.refl _) rfl ?_
    rintro v3 G3 _ hle3 ⟨-, rfl, hw3⟩
    repeat' (first | apply v_seq | apply v_region | apply v_nil | apply v_blk | (apply v_pure; (case hop => first | (apply p_move <;> rfl) | (apply p_ge <;> rfl) | (apply p_assign <;> rfl) | (apply p_fieldAddrB <;> rfl) | fail); (case hd => rfl)) | (apply v_read; (case hop => (apply r_load1; rfl; (apply Cell.own; (case h => (repeat (first | exact mhd _ | apply mtl))); rfl))); (case hd => rfl)) | (apply v_store; (case hp => rfl); (case hx => rfl); (case hc => rfl); (case hsz => rfl); (case h1 => rfl); (case hb => (repeat (first | exact mhd _ | apply mtl))); (case hfit => exact nle rfl); (case hov => ((repeat (first | with_reducible exact ov_nil | apply ov_cons)); done)); (case hu => repeat (first | exact Upd.here _ _ | apply Upd.there))) | fail)
    try rw [hdf]
    refine d_start [(b8, .cells [.int .i64 client, .int .i64 seq, .int .i64 0, .bool true, .string f.val, .int .i64 0].toArray 40 (0, 0))] (by kernel_rfl) (by kernel_rfl) (by kernel_rfl) (by intro e he; (simp at he; simp [he]; done)) ?_
    all_goals (apply dtk 0; (case hi => rfl); (case hop => (apply prd; apply p_move <;> rfl)); (case hq => kernel_rfl))
    all_goals (apply dtk 1; (case hi => rfl); (case hop => first | (apply r_loadNo; (case hx => rfl); (case h => (repeat (exact mhd _))); (case hd => (repeat (first | with_reducible exact dt_nil | apply dt_here))); (case hn => rfl)) | (apply r_load1; rfl; (apply Cell.own; (case h => (repeat (fail))); rfl)) | (apply r_loadN; rfl; (apply CellsAt.own; (case h => (repeat (fail)))); rfl)); (case hq => kernel_rfl))
    all_goals (apply dtk 2; (case hi => rfl); (case hop => (apply prd; apply p_assign <;> rfl)); (case hq => kernel_rfl))
    all_goals (apply d_store 3; (case hi => rfl); (case hr => kernel_rfl); (case hL => infer_instance); (case hp => rfl); (case hx => rfl); (case hc => rfl); (case hsz => rfl); (case h1 => rfl); (case hb => (repeat (first | exact mhd _ | apply mtl))); (case hfit => exact nle rfl); (case hov => ((repeat (first | with_reducible exact ov_nil | apply ov_cons)); done)); (case hu => repeat (first | exact Upd.here _ _ | apply Upd.there)); (case hν' => intro e he; (simp at he; simp [he]; done)))
    all_goals (apply d_done; (case hr => kernel_rfl))
    repeat' (fail)
    refine v_retM [] (outsM_tc (sz1 := 6) (vs1 := [.int .i64 client, .int .i64 seq, .int .i64 0, .bool true, .string f.val, .int .i64 0]) (e1 := 40) rfl rfl rfl (by repeat (first | exact mhd _ | apply mtl)) rfl) (List.nil_sublist _) ⟨hle3, rfl, _, rfl, hw3⟩
  · rw [if_neg (by assumption), if_pos (by assumption)]
    refine v_call (μ1 := []) rfl qo (List.Perm.refl _) rfl ?_
    rintro v3 G3 _ hle3 ⟨-, rfl, hw3⟩
    repeat' (first | apply v_seq | apply v_region | apply v_nil | apply v_blk | (apply v_pure; (case hop => first | (apply p_move <;> rfl) | (apply p_ge <;> rfl) | (apply p_assign <;> rfl) | (apply p_fieldAddrB <;> rfl) | fail); (case hd => rfl)) | (apply v_read; (case hop => (apply r_load1; rfl; (apply Cell.own; (case h => (repeat (first | exact mhd _ | apply mtl))); rfl))); (case hd => rfl)) | (apply v_store; (case hp => rfl); (case hx => rfl); (case hc => rfl); (case hsz => rfl); (case h1 => rfl); (case hb => (repeat (first | exact mhd _ | apply mtl))); (case hfit => exact nle rfl); (case hov => ((repeat (first | with_reducible exact ov_nil | apply ov_cons)); done)); (case hu => repeat (first | exact Upd.here _ _ | apply Upd.there))) | fail)
    try rw [hdf]
    refine d_start [(b8, .cells [.int .i64 client, .int .i64 seq, .int .i64 0, .bool true, .string f.val, .int .i64 0].toArray 40 (0, 0))] (by kernel_rfl) (by kernel_rfl) (by kernel_rfl) (by intro e he; (simp at he; simp [he]; done)) ?_
    all_goals (apply dtk 0; (case hi => rfl); (case hop => (apply prd; apply p_move <;> rfl)); (case hq => kernel_rfl))
    all_goals (apply dtk 1; (case hi => rfl); (case hop => first | (apply r_loadNo; (case hx => rfl); (case h => (repeat (exact mhd _))); (case hd => (repeat (first | with_reducible exact dt_nil | apply dt_here))); (case hn => rfl)) | (apply r_load1; rfl; (apply Cell.own; (case h => (repeat (fail))); rfl)) | (apply r_loadN; rfl; (apply CellsAt.own; (case h => (repeat (fail)))); rfl)); (case hq => kernel_rfl))
    all_goals (apply dtk 2; (case hi => rfl); (case hop => (apply prd; apply p_assign <;> rfl)); (case hq => kernel_rfl))
    all_goals (apply d_store 3; (case hi => rfl); (case hr => kernel_rfl); (case hL => infer_instance); (case hp => rfl); (case hx => rfl); (case hc => rfl); (case hsz => rfl); (case h1 => rfl); (case hb => (repeat (first | exact mhd _ | apply mtl))); (case hfit => exact nle rfl); (case hov => ((repeat (first | with_reducible exact ov_nil | apply ov_cons)); done)); (case hu => repeat (first | exact Upd.here _ _ | apply Upd.there)); (case hν' => intro e he; (simp at he; simp [he]; done)))
    all_goals (apply d_done; (case hr => kernel_rfl))
    repeat' (fail)
    refine v_retM [] (outsM_tc (sz1 := 6) (vs1 := [.int .i64 client, .int .i64 seq, .int .i64 0, .bool true, .string f.val, .int .i64 0]) (e1 := 40) rfl rfl rfl (by repeat (first | exact mhd _ | apply mtl)) rfl) (List.nil_sublist _) ⟨hle3, rfl, _, rfl, hw3⟩
  · rw [if_neg (by assumption), if_neg (by assumption), if_neg (by assumption)]
    try rw [hdf]
    refine d_start [(b8, .cells [.int .i64 client, .int .i64 seq, .int .i64 0, .bool true, .string f.val, .int .i64 0].toArray 40 (0, 0))] (by kernel_rfl) (by kernel_rfl) (by kernel_rfl) (by intro e he; (simp at he; simp [he]; done)) ?_
    all_goals (apply dtk 0; (case hi => rfl); (case hop => (apply prd; apply p_move <;> rfl)); (case hq => kernel_rfl))
    all_goals (apply dtk 1; (case hi => rfl); (case hop => first | (apply r_loadNo; (case hx => rfl); (case h => (repeat (exact mhd _))); (case hd => (repeat (first | with_reducible exact dt_nil | apply dt_here))); (case hn => rfl)) | (apply r_load1; rfl; (apply Cell.own; (case h => (repeat (fail))); rfl)) | (apply r_loadN; rfl; (apply CellsAt.own; (case h => (repeat (fail)))); rfl)); (case hq => kernel_rfl))
    all_goals (apply dtk 2; (case hi => rfl); (case hop => (apply prd; apply p_assign <;> rfl)); (case hq => kernel_rfl))
    all_goals (apply d_store 3; (case hi => rfl); (case hr => kernel_rfl); (case hL => infer_instance); (case hp => rfl); (case hx => rfl); (case hc => rfl); (case hsz => rfl); (case h1 => rfl); (case hb => (repeat (first | exact mhd _ | apply mtl))); (case hfit => exact nle rfl); (case hov => ((repeat (first | with_reducible exact ov_nil | apply ov_cons)); done)); (case hu => repeat (first | exact Upd.here _ _ | apply Upd.there)); (case hν' => intro e he; (simp at he; simp [he]; done)))
    all_goals (apply d_done; (case hr => kernel_rfl))
    repeat' (fail)
    refine v_retM [] (outsM_tc (sz1 := 6) (vs1 := [.int .i64 client, .int .i64 seq, .int .i64 0, .bool true, .string f.val, .int .i64 0]) (e1 := 40) rfl rfl rfl (by repeat (first | exact mhd _ | apply mtl)) rfl) (List.nil_sublist _) ⟨GH.le_refl _, rfl, _, rfl, hs⟩
theorem doH2 {G : GH} {l : List Pr} {A : Option Addr} {c : Nat} (kind client seq : Int) (key val old : ByteArray) (node : Int) (hs : Prs G (.slice A l.length c) l) (hr : RiseW ksP l) (hz : Sized l) (hn : l.length ≤ 200) (hkz : key.size ≤ 200) (hk : 2 ≤ kind ∧ kind ≤ 5) (i : Nat) (hi : i < l.length) (f : Pr) (hck : CellsG G ((adr A).add (i * 3)) f.cells) (hrev : f.rev < 4294967296) (hrev2 : 1 ≤ f.rev)
    (qp : Con Tryz.prog 224 #[.slice A l.length c, .string key] G [] (Just (.int .i64 (i : Nat)) G)) :
    Con Tryz.prog 156 #[.int .i64 2, .slice A l.length c, .agg (Cm.cells ⟨kind, client, seq, key, val, old, node⟩).toArray] G [] (DoPost G (if kind = 2 then (withG ksP l ⟨key, val, (f.rev + 1)⟩, ⟨client, seq, 0, true, f.val, 0⟩) else if kind = 4 then (l.filter (fun x => decide (ksP x ≠ kn key)), ⟨client, seq, 0, true, f.val, 0⟩) else if kind = 5 then (if f.val = old then (withG ksP l ⟨key, val, (f.rev + 1)⟩, ⟨client, seq, 0, true, f.val, (f.rev + 1)⟩) else (l, ⟨client, seq, 15, true, f.val, f.rev⟩)) else (l, ⟨client, seq, 0, true, f.val, 0⟩) : List Pr × An)) := by
  obtain ⟨B0, e0, e, hlc, hcm, hsome, hcp⟩ := rowOpen hs
  cases e
  simp only [maxLen] at hcm
  have qw := refPWith_s ⟨key, val, (f.rev + 1)⟩ hs hr hn hz hkz
  have qo := refWithout_s key hs hn hz hkz
  have e1 : ((i : Nat) : Int).toNat = i := by omega
  have hA := hsome (by omega)
  skip
  have hdf : dec ((0 : Int) ≤ (i : Nat)) = true := dec_pos (by omega)
  (refine v_enter Tryz.func156 rfl Tryz.ntmps156 rfl ?_; intro B _)
  repeat' (first | (apply v_box (d := 5) (zs := Cm.cells ⟨kind, client, seq, key, val, old, node⟩); (case hx => rfl); (case hz => rfl); (case hd => rfl); intro b5) | (apply v_alloc (d := 7); (case hz => rfl); (case hd => rfl); intro b7) | (apply v_alloc (d := 8); (case hz => rfl); (case hd => rfl); intro b8) | (apply v_alloc (d := 10); (case hz => rfl); (case hd => rfl); intro b10) | (apply v_alloc (d := 11); (case hz => rfl); (case hd => rfl); intro b11) | (apply v_read; (case hop => (apply r_loadNo; (case hx => rfl); (case h => repeat (exact mhd _)); (case hd => rfl); (case hn => rfl))); (case hd => rfl)) | apply v_seq | apply v_region | apply v_nil | apply v_skip | apply v_block | apply v_blk | (apply v_take; (case hg => rfl)) | (apply v_pass; (case hg => rfl); (case hn => rfl); (case hd => rfl)) | (apply v_pure; (case hop => first | (apply p_move <;> rfl) | (apply p_eqs <;> rfl) | (apply p_eq <;> rfl) | (apply p_lt <;> rfl) | (apply p_ne <;> rfl) | (apply p_ge <;> rfl) | (apply p_assign <;> rfl) | (apply p_pickT <;> rfl) | (apply p_pickF <;> rfl) | (apply p_fieldAddrB <;> rfl) | (apply p_add; (case hx => rfl); (case hy => rfl); (case h => omega)) | (apply p_indexAddrS; (case hx => rfl); (case hi => rfl); (case h0 => omega); (case h => omega); (case hA => assumption)) | (apply p_build; (case hz => rfl); (case hv => (simp only [List.map_cons, List.map_nil]; repeat (first | with_reducible exact evs_nil | (apply evs_cons; (case h1 => rfl))))); (case hb => (apply bldL; repeat (first | exact bld_nil | (apply bld_cons; (case hpf => rfl); (case hc => rfl); (case hs => rfl); (case hl => rfl); (case ho => ((repeat (first | with_reducible exact ov_nil | apply ov_cons)); done))))))) | (apply p_neS <;> rfl) | fail); (case hd => rfl)) | (apply v_condT; (case hc => rfl)) | (apply v_condF; (case hc => rfl)) | (apply v_cond; (case hc => rfl); all_goals (intro h; (try simp only [reduceCtorEq, zzz] at h); first | (exfalso; omega) | skip)) | (apply v_guardB; (case h1 => rfl); (case h2 => rfl); all_goals (intro h; (try simp only [reduceCtorEq, zzz] at h); first | (exfalso; omega) | skip)) | (apply v_read; (case hop => (apply r_loadN; rfl; exact CellsAt.frozen hck; rfl)); (case hd => rfl)) | (apply v_callJ (hs := qp); (case ha => rfl); (case hd => rfl)) | (apply v_read; (case hop => (apply r_load1; rfl; (apply Cell.own; (case h => (repeat (first | exact mhd _ | apply mtl))); rfl))); (case hd => rfl)) | (apply v_store; (case hp => rfl); (case hx => rfl); (case hc => rfl); (case hsz => rfl); (case h1 => rfl); (case hb => (repeat (first | exact mhd _ | apply mtl))); (case hfit => exact nle rfl); (case hov => ((repeat (first | with_reducible exact ov_nil | apply ov_cons)); done)); (case hu => repeat (first | exact Upd.here _ _ | apply Upd.there))) | fail)
  · rw [if_pos (by assumption)]
    refine v_call (μ1 := []) rfl qw (List.Perm.refl _) rfl ?_
    rintro v3 G3 _ hle3 ⟨-, rfl, hw3⟩
    repeat' (first | apply v_seq | apply v_region | apply v_nil | apply v_blk | (apply v_pure; (case hop => first | (apply p_move <;> rfl) | (apply p_ge <;> rfl) | (apply p_assign <;> rfl) | (apply p_fieldAddrB <;> rfl) | fail); (case hd => rfl)) | (apply v_read; (case hop => (apply r_load1; rfl; (apply Cell.own; (case h => (repeat (first | exact mhd _ | apply mtl))); rfl))); (case hd => rfl)) | (apply v_store; (case hp => rfl); (case hx => rfl); (case hc => rfl); (case hsz => rfl); (case h1 => rfl); (case hb => (repeat (first | exact mhd _ | apply mtl))); (case hfit => exact nle rfl); (case hov => ((repeat (first | with_reducible exact ov_nil | apply ov_cons)); done)); (case hu => repeat (first | exact Upd.here _ _ | apply Upd.there))) | fail)
    try rw [hdf]
    refine d_start [(b8, .cells [.int .i64 client, .int .i64 seq, .int .i64 0, .bool true, .string f.val, .int .i64 0].toArray 40 (0, 0))] (by kernel_rfl) (by kernel_rfl) (by kernel_rfl) (by intro e he; (simp at he; simp [he]; done)) ?_
    all_goals (apply dtk 0; (case hi => rfl); (case hop => (apply prd; apply p_move <;> rfl)); (case hq => kernel_rfl))
    all_goals (apply dtk 1; (case hi => rfl); (case hop => first | (apply r_loadNo; (case hx => rfl); (case h => (repeat (exact mhd _))); (case hd => (repeat (first | with_reducible exact dt_nil | apply dt_here))); (case hn => rfl)) | (apply r_load1; rfl; (apply Cell.own; (case h => (repeat (fail))); rfl)) | (apply r_loadN; rfl; (apply CellsAt.own; (case h => (repeat (fail)))); rfl)); (case hq => kernel_rfl))
    all_goals (apply dtk 2; (case hi => rfl); (case hop => (apply prd; apply p_assign <;> rfl)); (case hq => kernel_rfl))
    all_goals (apply d_store 3; (case hi => rfl); (case hr => kernel_rfl); (case hL => infer_instance); (case hp => rfl); (case hx => rfl); (case hc => rfl); (case hsz => rfl); (case h1 => rfl); (case hb => (repeat (first | exact mhd _ | apply mtl))); (case hfit => exact nle rfl); (case hov => ((repeat (first | with_reducible exact ov_nil | apply ov_cons)); done)); (case hu => repeat (first | exact Upd.here _ _ | apply Upd.there)); (case hν' => intro e he; (simp at he; simp [he]; done)))
    all_goals (apply d_done; (case hr => kernel_rfl))
    repeat' (fail)
    refine v_retM [] (outsM_tc (sz1 := 6) (vs1 := [.int .i64 client, .int .i64 seq, .int .i64 0, .bool true, .string f.val, .int .i64 0]) (e1 := 40) rfl rfl rfl (by repeat (first | exact mhd _ | apply mtl)) rfl) (List.nil_sublist _) ⟨hle3, rfl, _, rfl, hw3⟩
  · rw [if_neg (by assumption), if_pos (by assumption)]
    refine v_call (μ1 := []) rfl qo (List.Perm.refl _) rfl ?_
    rintro v3 G3 _ hle3 ⟨-, rfl, hw3⟩
    repeat' (first | apply v_seq | apply v_region | apply v_nil | apply v_blk | (apply v_pure; (case hop => first | (apply p_move <;> rfl) | (apply p_ge <;> rfl) | (apply p_assign <;> rfl) | (apply p_fieldAddrB <;> rfl) | fail); (case hd => rfl)) | (apply v_read; (case hop => (apply r_load1; rfl; (apply Cell.own; (case h => (repeat (first | exact mhd _ | apply mtl))); rfl))); (case hd => rfl)) | (apply v_store; (case hp => rfl); (case hx => rfl); (case hc => rfl); (case hsz => rfl); (case h1 => rfl); (case hb => (repeat (first | exact mhd _ | apply mtl))); (case hfit => exact nle rfl); (case hov => ((repeat (first | with_reducible exact ov_nil | apply ov_cons)); done)); (case hu => repeat (first | exact Upd.here _ _ | apply Upd.there))) | fail)
    try rw [hdf]
    refine d_start [(b8, .cells [.int .i64 client, .int .i64 seq, .int .i64 0, .bool true, .string f.val, .int .i64 0].toArray 40 (0, 0))] (by kernel_rfl) (by kernel_rfl) (by kernel_rfl) (by intro e he; (simp at he; simp [he]; done)) ?_
    all_goals (apply dtk 0; (case hi => rfl); (case hop => (apply prd; apply p_move <;> rfl)); (case hq => kernel_rfl))
    all_goals (apply dtk 1; (case hi => rfl); (case hop => first | (apply r_loadNo; (case hx => rfl); (case h => (repeat (exact mhd _))); (case hd => (repeat (first | with_reducible exact dt_nil | apply dt_here))); (case hn => rfl)) | (apply r_load1; rfl; (apply Cell.own; (case h => (repeat (fail))); rfl)) | (apply r_loadN; rfl; (apply CellsAt.own; (case h => (repeat (fail)))); rfl)); (case hq => kernel_rfl))
    all_goals (apply dtk 2; (case hi => rfl); (case hop => (apply prd; apply p_assign <;> rfl)); (case hq => kernel_rfl))
    all_goals (apply d_store 3; (case hi => rfl); (case hr => kernel_rfl); (case hL => infer_instance); (case hp => rfl); (case hx => rfl); (case hc => rfl); (case hsz => rfl); (case h1 => rfl); (case hb => (repeat (first | exact mhd _ | apply mtl))); (case hfit => exact nle rfl); (case hov => ((repeat (first | with_reducible exact ov_nil | apply ov_cons)); done)); (case hu => repeat (first | exact Upd.here _ _ | apply Upd.there)); (case hν' => intro e he; (simp at he; simp [he]; done)))
    all_goals (apply d_done; (case hr => kernel_rfl))
    repeat' (fail)
    refine v_retM [] (outsM_tc (sz1 := 6) (vs1 := [.int .i64 client, .int .i64 seq, .int .i64 0, .bool true, .string f.val, .int .i64 0]) (e1 := 40) rfl rfl rfl (by repeat (first | exact mhd _ | apply mtl)) rfl) (List.nil_sublist _) ⟨hle3, rfl, _, rfl, hw3⟩
  · rw [if_neg (by assumption), if_neg (by assumption), if_pos (by assumption), if_neg (by assumption)]
    try rw [hdf]
    refine d_start [(b8, .cells [.int .i64 client, .int .i64 seq, .int .i64 15, .bool true, .string f.val, .int .i64 f.rev].toArray 40 (0, 0))] (by kernel_rfl) (by kernel_rfl) (by kernel_rfl) (by intro e he; (simp at he; simp [he]; done)) ?_
    all_goals (apply dtk 0; (case hi => rfl); (case hop => (apply prd; apply p_move <;> rfl)); (case hq => kernel_rfl))
    all_goals (apply dtk 1; (case hi => rfl); (case hop => first | (apply r_loadNo; (case hx => rfl); (case h => (repeat (exact mhd _))); (case hd => (repeat (first | with_reducible exact dt_nil | apply dt_here))); (case hn => rfl)) | (apply r_load1; rfl; (apply Cell.own; (case h => (repeat (fail))); rfl)) | (apply r_loadN; rfl; (apply CellsAt.own; (case h => (repeat (fail)))); rfl)); (case hq => kernel_rfl))
    all_goals (apply dtk 2; (case hi => rfl); (case hop => (apply prd; apply p_assign <;> rfl)); (case hq => kernel_rfl))
    all_goals (apply d_store 3; (case hi => rfl); (case hr => kernel_rfl); (case hL => infer_instance); (case hp => rfl); (case hx => rfl); (case hc => rfl); (case hsz => rfl); (case h1 => rfl); (case hb => (repeat (first | exact mhd _ | apply mtl))); (case hfit => exact nle rfl); (case hov => ((repeat (first | with_reducible exact ov_nil | apply ov_cons)); done)); (case hu => repeat (first | exact Upd.here _ _ | apply Upd.there)); (case hν' => intro e he; (simp at he; simp [he]; done)))
    all_goals (apply d_done; (case hr => kernel_rfl))
    repeat' (fail)
    refine v_retM [] (outsM_tc (sz1 := 6) (vs1 := [.int .i64 client, .int .i64 seq, .int .i64 15, .bool true, .string f.val, .int .i64 f.rev]) (e1 := 40) rfl rfl rfl (by repeat (first | exact mhd _ | apply mtl)) rfl) (List.nil_sublist _) ⟨GH.le_refl _, rfl, _, rfl, hs⟩
  · rw [if_neg (by assumption), if_neg (by assumption), if_pos (by assumption), if_pos (by assumption)]
    try rw [hdf]
    refine d_start [(b8, .cells [.int .i64 client, .int .i64 seq, .int .i64 0, .bool true, .string f.val, .int .i64 (f.rev + 1)].toArray 40 (0, 0)), (b11, .cells [.string key, .string val, .int .i64 (f.rev + 1)].toArray 144 (0, 0))] (by kernel_rfl) (by kernel_rfl) (by kernel_rfl) (by intro e he; (simp only [List.mem_cons, List.not_mem_nil, or_false] at he; rcases he with rfl | rfl <;> simp; done)) ?_
    all_goals (apply dtk 0; (case hi => rfl); (case hop => (apply prd; apply p_move <;> rfl)); (case hq => kernel_rfl))
    all_goals (apply dtk 1; (case hi => rfl); (case hop => first | (apply r_loadNo; (case hx => rfl); (case h => (repeat (first | exact mhd _ | apply mtl))); (case hd => (repeat (first | with_reducible exact dt_nil | apply dt_here))); (case hn => rfl)) | (apply r_load1; rfl; (apply Cell.own; (case h => (repeat (fail))); rfl)) | (apply r_loadN; rfl; (apply CellsAt.own; (case h => (repeat (fail)))); rfl)); (case hq => kernel_rfl))
    all_goals (apply dtk 3; (case hi => rfl); (case hop => first | (apply r_loadNo; (case hx => rfl); (case h => (repeat (exact mhd _))); (case hd => (repeat (first | with_reducible exact dt_nil | apply dt_here))); (case hn => rfl)) | (apply r_load1; rfl; (apply Cell.own; (case h => (repeat (fail))); rfl)) | (apply r_loadN; rfl; (apply CellsAt.own; (case h => (repeat (fail)))); rfl)); (case hq => kernel_rfl))
    all_goals ((apply d_call 2 (hs := qw) (μ1 := []) (μ2 := [(b11, .cells [.string key, .string val, .int .i64 (f.rev + 1)].toArray 144 (0, 0)), (b10, .cells [.string f.key, .string f.val, .int .i64 f.rev].toArray 144 (0, 0)), (b8, .cells [.int .i64 client, .int .i64 seq, .int .i64 0, .bool true, .string f.val, .int .i64 (f.rev + 1)].toArray 40 (0, 0)), (b7, .cells [.int .i64 0, .int .i64 0, .int .i64 0, .bool false, .string ByteArray.empty, .int .i64 0].toArray 40 (0, 0)), (b5, .cells (Cm.cells ⟨kind, client, seq, key, val, old, node⟩).toArray 28 (0, 0))]); (case hi => rfl); (case hr => kernel_rfl);  (case ha => rfl); (case hp => exact List.Perm.refl _); (case hd => rfl); (case hν' => intro e he; simp only [List.mem_cons, List.not_mem_nil, or_false] at he; rcases he with rfl | rfl <;> simp); rintro v3 G3 _ hle3 ⟨-, rfl, hw3⟩))
    all_goals (apply dtk 4; (case hi => rfl); (case hop => (apply prd; apply p_assign <;> rfl)); (case hq => kernel_rfl))
    all_goals (apply d_store 5; (case hi => rfl); (case hr => kernel_rfl); (case hL => infer_instance); (case hp => rfl); (case hx => rfl); (case hc => rfl); (case hsz => rfl); (case h1 => rfl); (case hb => (repeat (first | exact mhd _ | apply mtl))); (case hfit => exact nle rfl); (case hov => ((repeat (first | with_reducible exact ov_nil | apply ov_cons)); done)); (case hu => repeat (first | exact Upd.here _ _ | apply Upd.there)); (case hν' => intro e he; (simp only [List.mem_cons, List.not_mem_nil, or_false] at he; rcases he with rfl | rfl <;> simp; done)))
    all_goals (apply d_done; (case hr => kernel_rfl))
    repeat' (fail)
    refine v_retM [] (outsM_tc (sz1 := 6) (vs1 := [.int .i64 client, .int .i64 seq, .int .i64 0, .bool true, .string f.val, .int .i64 (f.rev + 1)]) (e1 := 40) rfl rfl rfl (by repeat (first | exact mhd _ | apply mtl)) rfl) (List.nil_sublist _) ⟨hle3, rfl, _, rfl, hw3⟩
  · rw [if_neg (by assumption), if_neg (by assumption), if_neg (by assumption)]
    try rw [hdf]
    refine d_start [(b8, .cells [.int .i64 client, .int .i64 seq, .int .i64 0, .bool true, .string f.val, .int .i64 0].toArray 40 (0, 0))] (by kernel_rfl) (by kernel_rfl) (by kernel_rfl) (by intro e he; (simp at he; simp [he]; done)) ?_
    all_goals (apply dtk 0; (case hi => rfl); (case hop => (apply prd; apply p_move <;> rfl)); (case hq => kernel_rfl))
    all_goals (apply dtk 1; (case hi => rfl); (case hop => first | (apply r_loadNo; (case hx => rfl); (case h => (repeat (exact mhd _))); (case hd => (repeat (first | with_reducible exact dt_nil | apply dt_here))); (case hn => rfl)) | (apply r_load1; rfl; (apply Cell.own; (case h => (repeat (fail))); rfl)) | (apply r_loadN; rfl; (apply CellsAt.own; (case h => (repeat (fail)))); rfl)); (case hq => kernel_rfl))
    all_goals (apply dtk 2; (case hi => rfl); (case hop => (apply prd; apply p_assign <;> rfl)); (case hq => kernel_rfl))
    all_goals (apply d_store 3; (case hi => rfl); (case hr => kernel_rfl); (case hL => infer_instance); (case hp => rfl); (case hx => rfl); (case hc => rfl); (case hsz => rfl); (case h1 => rfl); (case hb => (repeat (first | exact mhd _ | apply mtl))); (case hfit => exact nle rfl); (case hov => ((repeat (first | with_reducible exact ov_nil | apply ov_cons)); done)); (case hu => repeat (first | exact Upd.here _ _ | apply Upd.there)); (case hν' => intro e he; (simp at he; simp [he]; done)))
    all_goals (apply d_done; (case hr => kernel_rfl))
    repeat' (fail)
    refine v_retM [] (outsM_tc (sz1 := 6) (vs1 := [.int .i64 client, .int .i64 seq, .int .i64 0, .bool true, .string f.val, .int .i64 0]) (e1 := 40) rfl rfl rfl (by repeat (first | exact mhd _ | apply mtl)) rfl) (List.nil_sublist _) ⟨GH.le_refl _, rfl, _, rfl, hs⟩
theorem doF2 {G : GH} {l : List Pr} {A : Option Addr} {c : Nat} (kind client seq : Int) (key val old : ByteArray) (node : Int) (hs : Prs G (.slice A l.length c) l) (hr : RiseW ksP l) (hz : Sized l) (hn : l.length ≤ 200) (hkz : key.size ≤ 200) (hk : 2 ≤ kind ∧ kind ≤ 5) (i : Nat) (hi : i < l.length) (f : Pr) (hck : CellsG G ((adr A).add (i * 3)) f.cells) (hrev : 4294967296 ≤ f.rev) (hrev2 : f.rev ≤ 4294967296)
    (qp : Con Tryz.prog 224 #[.slice A l.length c, .string key] G [] (Just (.int .i64 (i : Nat)) G)) :
    Con Tryz.prog 156 #[.int .i64 2, .slice A l.length c, .agg (Cm.cells ⟨kind, client, seq, key, val, old, node⟩).toArray] G [] (DoPost G (if kind = 2 then (withG ksP l ⟨key, val, f.rev⟩, ⟨client, seq, 0, true, f.val, 0⟩) else if kind = 4 then (l.filter (fun x => decide (ksP x ≠ kn key)), ⟨client, seq, 0, true, f.val, 0⟩) else if kind = 5 then (if f.val = old then (withG ksP l ⟨key, val, f.rev⟩, ⟨client, seq, 0, true, f.val, f.rev⟩) else (l, ⟨client, seq, 15, true, f.val, f.rev⟩)) else (l, ⟨client, seq, 0, true, f.val, 0⟩) : List Pr × An)) := by
  obtain ⟨B0, e0, e, hlc, hcm, hsome, hcp⟩ := rowOpen hs
  cases e
  simp only [maxLen] at hcm
  have qw := refPWith_s ⟨key, val, f.rev⟩ hs hr hn hz hkz
  have qo := refWithout_s key hs hn hz hkz
  have e1 : ((i : Nat) : Int).toNat = i := by omega
  have hA := hsome (by omega)
  skip
  have hdf : dec ((0 : Int) ≤ (i : Nat)) = true := dec_pos (by omega)
  (refine v_enter Tryz.func156 rfl Tryz.ntmps156 rfl ?_; intro B _)
  repeat' (first | (apply v_box (d := 5) (zs := Cm.cells ⟨kind, client, seq, key, val, old, node⟩); (case hx => rfl); (case hz => rfl); (case hd => rfl); intro b5) | (apply v_alloc (d := 7); (case hz => rfl); (case hd => rfl); intro b7) | (apply v_alloc (d := 8); (case hz => rfl); (case hd => rfl); intro b8) | (apply v_alloc (d := 10); (case hz => rfl); (case hd => rfl); intro b10) | (apply v_alloc (d := 11); (case hz => rfl); (case hd => rfl); intro b11) | (apply v_read; (case hop => (apply r_loadNo; (case hx => rfl); (case h => repeat (exact mhd _)); (case hd => rfl); (case hn => rfl))); (case hd => rfl)) | apply v_seq | apply v_region | apply v_nil | apply v_skip | apply v_block | apply v_blk | (apply v_take; (case hg => rfl)) | (apply v_pass; (case hg => rfl); (case hn => rfl); (case hd => rfl)) | (apply v_pure; (case hop => first | (apply p_move <;> rfl) | (apply p_eqs <;> rfl) | (apply p_eq <;> rfl) | (apply p_lt <;> rfl) | (apply p_ne <;> rfl) | (apply p_ge <;> rfl) | (apply p_assign <;> rfl) | (apply p_pickT <;> rfl) | (apply p_pickF <;> rfl) | (apply p_fieldAddrB <;> rfl) | (apply p_indexAddrS; (case hx => rfl); (case hi => rfl); (case h0 => omega); (case h => omega); (case hA => assumption)) | (apply p_build; (case hz => rfl); (case hv => (simp only [List.map_cons, List.map_nil]; repeat (first | with_reducible exact evs_nil | (apply evs_cons; (case h1 => rfl))))); (case hb => (apply bldL; repeat (first | exact bld_nil | (apply bld_cons; (case hpf => rfl); (case hc => rfl); (case hs => rfl); (case hl => rfl); (case ho => ((repeat (first | with_reducible exact ov_nil | apply ov_cons)); done))))))) | (apply p_neS <;> rfl) | fail); (case hd => rfl)) | (apply v_condT; (case hc => rfl)) | (apply v_condF; (case hc => rfl)) | (apply v_cond; (case hc => rfl); all_goals (intro h; (try simp only [reduceCtorEq, zzz] at h); first | (exfalso; omega) | skip)) | (apply v_guardB; (case h1 => rfl); (case h2 => rfl); all_goals (intro h; (try simp only [reduceCtorEq, zzz] at h); first | (exfalso; omega) | skip)) | (apply v_read; (case hop => (apply r_loadN; rfl; exact CellsAt.frozen hck; rfl)); (case hd => rfl)) | (apply v_callJ (hs := qp); (case ha => rfl); (case hd => rfl)) | (apply v_read; (case hop => (apply r_load1; rfl; (apply Cell.own; (case h => (repeat (first | exact mhd _ | apply mtl))); rfl))); (case hd => rfl)) | (apply v_store; (case hp => rfl); (case hx => rfl); (case hc => rfl); (case hsz => rfl); (case h1 => rfl); (case hb => (repeat (first | exact mhd _ | apply mtl))); (case hfit => exact nle rfl); (case hov => ((repeat (first | with_reducible exact ov_nil | apply ov_cons)); done)); (case hu => repeat (first | exact Upd.here _ _ | apply Upd.there))) | fail)
  · rw [if_pos (by assumption)]
    refine v_call (μ1 := []) rfl qw (List.Perm.refl _) rfl ?_
    rintro v3 G3 _ hle3 ⟨-, rfl, hw3⟩
    repeat' (first | apply v_seq | apply v_region | apply v_nil | apply v_blk | (apply v_pure; (case hop => first | (apply p_move <;> rfl) | (apply p_ge <;> rfl) | (apply p_assign <;> rfl) | (apply p_fieldAddrB <;> rfl) | fail); (case hd => rfl)) | (apply v_read; (case hop => (apply r_load1; rfl; (apply Cell.own; (case h => (repeat (first | exact mhd _ | apply mtl))); rfl))); (case hd => rfl)) | (apply v_store; (case hp => rfl); (case hx => rfl); (case hc => rfl); (case hsz => rfl); (case h1 => rfl); (case hb => (repeat (first | exact mhd _ | apply mtl))); (case hfit => exact nle rfl); (case hov => ((repeat (first | with_reducible exact ov_nil | apply ov_cons)); done)); (case hu => repeat (first | exact Upd.here _ _ | apply Upd.there))) | fail)
    try rw [hdf]
    refine d_start [(b8, .cells [.int .i64 client, .int .i64 seq, .int .i64 0, .bool true, .string f.val, .int .i64 0].toArray 40 (0, 0))] (by kernel_rfl) (by kernel_rfl) (by kernel_rfl) (by intro e he; (simp at he; simp [he]; done)) ?_
    all_goals (apply dtk 0; (case hi => rfl); (case hop => (apply prd; apply p_move <;> rfl)); (case hq => kernel_rfl))
    all_goals (apply dtk 1; (case hi => rfl); (case hop => first | (apply r_loadNo; (case hx => rfl); (case h => (repeat (exact mhd _))); (case hd => (repeat (first | with_reducible exact dt_nil | apply dt_here))); (case hn => rfl)) | (apply r_load1; rfl; (apply Cell.own; (case h => (repeat (fail))); rfl)) | (apply r_loadN; rfl; (apply CellsAt.own; (case h => (repeat (fail)))); rfl)); (case hq => kernel_rfl))
    all_goals (apply dtk 2; (case hi => rfl); (case hop => (apply prd; apply p_assign <;> rfl)); (case hq => kernel_rfl))
    all_goals (apply d_store 3; (case hi => rfl); (case hr => kernel_rfl); (case hL => infer_instance); (case hp => rfl); (case hx => rfl); (case hc => rfl); (case hsz => rfl); (case h1 => rfl); (case hb => (repeat (first | exact mhd _ | apply mtl))); (case hfit => exact nle rfl); (case hov => ((repeat (first | with_reducible exact ov_nil | apply ov_cons)); done)); (case hu => repeat (first | exact Upd.here _ _ | apply Upd.there)); (case hν' => intro e he; (simp at he; simp [he]; done)))
    all_goals (apply d_done; (case hr => kernel_rfl))
    repeat' (fail)
    refine v_retM [] (outsM_tc (sz1 := 6) (vs1 := [.int .i64 client, .int .i64 seq, .int .i64 0, .bool true, .string f.val, .int .i64 0]) (e1 := 40) rfl rfl rfl (by repeat (first | exact mhd _ | apply mtl)) rfl) (List.nil_sublist _) ⟨hle3, rfl, _, rfl, hw3⟩
  · rw [if_neg (by assumption), if_pos (by assumption)]
    refine v_call (μ1 := []) rfl qo (List.Perm.refl _) rfl ?_
    rintro v3 G3 _ hle3 ⟨-, rfl, hw3⟩
    repeat' (first | apply v_seq | apply v_region | apply v_nil | apply v_blk | (apply v_pure; (case hop => first | (apply p_move <;> rfl) | (apply p_ge <;> rfl) | (apply p_assign <;> rfl) | (apply p_fieldAddrB <;> rfl) | fail); (case hd => rfl)) | (apply v_read; (case hop => (apply r_load1; rfl; (apply Cell.own; (case h => (repeat (first | exact mhd _ | apply mtl))); rfl))); (case hd => rfl)) | (apply v_store; (case hp => rfl); (case hx => rfl); (case hc => rfl); (case hsz => rfl); (case h1 => rfl); (case hb => (repeat (first | exact mhd _ | apply mtl))); (case hfit => exact nle rfl); (case hov => ((repeat (first | with_reducible exact ov_nil | apply ov_cons)); done)); (case hu => repeat (first | exact Upd.here _ _ | apply Upd.there))) | fail)
    try rw [hdf]
    refine d_start [(b8, .cells [.int .i64 client, .int .i64 seq, .int .i64 0, .bool true, .string f.val, .int .i64 0].toArray 40 (0, 0))] (by kernel_rfl) (by kernel_rfl) (by kernel_rfl) (by intro e he; (simp at he; simp [he]; done)) ?_
    all_goals (apply dtk 0; (case hi => rfl); (case hop => (apply prd; apply p_move <;> rfl)); (case hq => kernel_rfl))
    all_goals (apply dtk 1; (case hi => rfl); (case hop => first | (apply r_loadNo; (case hx => rfl); (case h => (repeat (exact mhd _))); (case hd => (repeat (first | with_reducible exact dt_nil | apply dt_here))); (case hn => rfl)) | (apply r_load1; rfl; (apply Cell.own; (case h => (repeat (fail))); rfl)) | (apply r_loadN; rfl; (apply CellsAt.own; (case h => (repeat (fail)))); rfl)); (case hq => kernel_rfl))
    all_goals (apply dtk 2; (case hi => rfl); (case hop => (apply prd; apply p_assign <;> rfl)); (case hq => kernel_rfl))
    all_goals (apply d_store 3; (case hi => rfl); (case hr => kernel_rfl); (case hL => infer_instance); (case hp => rfl); (case hx => rfl); (case hc => rfl); (case hsz => rfl); (case h1 => rfl); (case hb => (repeat (first | exact mhd _ | apply mtl))); (case hfit => exact nle rfl); (case hov => ((repeat (first | with_reducible exact ov_nil | apply ov_cons)); done)); (case hu => repeat (first | exact Upd.here _ _ | apply Upd.there)); (case hν' => intro e he; (simp at he; simp [he]; done)))
    all_goals (apply d_done; (case hr => kernel_rfl))
    repeat' (fail)
    refine v_retM [] (outsM_tc (sz1 := 6) (vs1 := [.int .i64 client, .int .i64 seq, .int .i64 0, .bool true, .string f.val, .int .i64 0]) (e1 := 40) rfl rfl rfl (by repeat (first | exact mhd _ | apply mtl)) rfl) (List.nil_sublist _) ⟨hle3, rfl, _, rfl, hw3⟩
  · rw [if_neg (by assumption), if_neg (by assumption), if_pos (by assumption), if_neg (by assumption)]
    try rw [hdf]
    refine d_start [(b8, .cells [.int .i64 client, .int .i64 seq, .int .i64 15, .bool true, .string f.val, .int .i64 f.rev].toArray 40 (0, 0))] (by kernel_rfl) (by kernel_rfl) (by kernel_rfl) (by intro e he; (simp at he; simp [he]; done)) ?_
    all_goals (apply dtk 0; (case hi => rfl); (case hop => (apply prd; apply p_move <;> rfl)); (case hq => kernel_rfl))
    all_goals (apply dtk 1; (case hi => rfl); (case hop => first | (apply r_loadNo; (case hx => rfl); (case h => (repeat (exact mhd _))); (case hd => (repeat (first | with_reducible exact dt_nil | apply dt_here))); (case hn => rfl)) | (apply r_load1; rfl; (apply Cell.own; (case h => (repeat (fail))); rfl)) | (apply r_loadN; rfl; (apply CellsAt.own; (case h => (repeat (fail)))); rfl)); (case hq => kernel_rfl))
    all_goals (apply dtk 2; (case hi => rfl); (case hop => (apply prd; apply p_assign <;> rfl)); (case hq => kernel_rfl))
    all_goals (apply d_store 3; (case hi => rfl); (case hr => kernel_rfl); (case hL => infer_instance); (case hp => rfl); (case hx => rfl); (case hc => rfl); (case hsz => rfl); (case h1 => rfl); (case hb => (repeat (first | exact mhd _ | apply mtl))); (case hfit => exact nle rfl); (case hov => ((repeat (first | with_reducible exact ov_nil | apply ov_cons)); done)); (case hu => repeat (first | exact Upd.here _ _ | apply Upd.there)); (case hν' => intro e he; (simp at he; simp [he]; done)))
    all_goals (apply d_done; (case hr => kernel_rfl))
    repeat' (fail)
    refine v_retM [] (outsM_tc (sz1 := 6) (vs1 := [.int .i64 client, .int .i64 seq, .int .i64 15, .bool true, .string f.val, .int .i64 f.rev]) (e1 := 40) rfl rfl rfl (by repeat (first | exact mhd _ | apply mtl)) rfl) (List.nil_sublist _) ⟨GH.le_refl _, rfl, _, rfl, hs⟩
  · rw [if_neg (by assumption), if_neg (by assumption), if_pos (by assumption), if_pos (by assumption)]
    try rw [hdf]
    refine d_start [(b8, .cells [.int .i64 client, .int .i64 seq, .int .i64 0, .bool true, .string f.val, .int .i64 f.rev].toArray 40 (0, 0)), (b11, .cells [.string key, .string val, .int .i64 f.rev].toArray 144 (0, 0))] (by kernel_rfl) (by kernel_rfl) (by kernel_rfl) (by intro e he; (simp only [List.mem_cons, List.not_mem_nil, or_false] at he; rcases he with rfl | rfl <;> simp; done)) ?_
    all_goals (apply dtk 0; (case hi => rfl); (case hop => (apply prd; apply p_move <;> rfl)); (case hq => kernel_rfl))
    all_goals (apply dtk 1; (case hi => rfl); (case hop => first | (apply r_loadNo; (case hx => rfl); (case h => (repeat (first | exact mhd _ | apply mtl))); (case hd => (repeat (first | with_reducible exact dt_nil | apply dt_here))); (case hn => rfl)) | (apply r_load1; rfl; (apply Cell.own; (case h => (repeat (fail))); rfl)) | (apply r_loadN; rfl; (apply CellsAt.own; (case h => (repeat (fail)))); rfl)); (case hq => kernel_rfl))
    all_goals (apply dtk 3; (case hi => rfl); (case hop => first | (apply r_loadNo; (case hx => rfl); (case h => (repeat (exact mhd _))); (case hd => (repeat (first | with_reducible exact dt_nil | apply dt_here))); (case hn => rfl)) | (apply r_load1; rfl; (apply Cell.own; (case h => (repeat (fail))); rfl)) | (apply r_loadN; rfl; (apply CellsAt.own; (case h => (repeat (fail)))); rfl)); (case hq => kernel_rfl))
    all_goals ((apply d_call 2 (hs := qw) (μ1 := []) (μ2 := [(b11, .cells [.string key, .string val, .int .i64 f.rev].toArray 144 (0, 0)), (b10, .cells [.string f.key, .string f.val, .int .i64 f.rev].toArray 144 (0, 0)), (b8, .cells [.int .i64 client, .int .i64 seq, .int .i64 0, .bool true, .string f.val, .int .i64 f.rev].toArray 40 (0, 0)), (b7, .cells [.int .i64 0, .int .i64 0, .int .i64 0, .bool false, .string ByteArray.empty, .int .i64 0].toArray 40 (0, 0)), (b5, .cells (Cm.cells ⟨kind, client, seq, key, val, old, node⟩).toArray 28 (0, 0))]); (case hi => rfl); (case hr => kernel_rfl);  (case ha => rfl); (case hp => exact List.Perm.refl _); (case hd => rfl); (case hν' => intro e he; simp only [List.mem_cons, List.not_mem_nil, or_false] at he; rcases he with rfl | rfl <;> simp); rintro v3 G3 _ hle3 ⟨-, rfl, hw3⟩))
    all_goals (apply dtk 4; (case hi => rfl); (case hop => (apply prd; apply p_assign <;> rfl)); (case hq => kernel_rfl))
    all_goals (apply d_store 5; (case hi => rfl); (case hr => kernel_rfl); (case hL => infer_instance); (case hp => rfl); (case hx => rfl); (case hc => rfl); (case hsz => rfl); (case h1 => rfl); (case hb => (repeat (first | exact mhd _ | apply mtl))); (case hfit => exact nle rfl); (case hov => ((repeat (first | with_reducible exact ov_nil | apply ov_cons)); done)); (case hu => repeat (first | exact Upd.here _ _ | apply Upd.there)); (case hν' => intro e he; (simp only [List.mem_cons, List.not_mem_nil, or_false] at he; rcases he with rfl | rfl <;> simp; done)))
    all_goals (apply d_done; (case hr => kernel_rfl))
    repeat' (fail)
    refine v_retM [] (outsM_tc (sz1 := 6) (vs1 := [.int .i64 client, .int .i64 seq, .int .i64 0, .bool true, .string f.val, .int .i64 f.rev]) (e1 := 40) rfl rfl rfl (by repeat (first | exact mhd _ | apply mtl)) rfl) (List.nil_sublist _) ⟨hle3, rfl, _, rfl, hw3⟩
  · rw [if_neg (by assumption), if_neg (by assumption), if_neg (by assumption)]
    try rw [hdf]
    refine d_start [(b8, .cells [.int .i64 client, .int .i64 seq, .int .i64 0, .bool true, .string f.val, .int .i64 0].toArray 40 (0, 0))] (by kernel_rfl) (by kernel_rfl) (by kernel_rfl) (by intro e he; (simp at he; simp [he]; done)) ?_
    all_goals (apply dtk 0; (case hi => rfl); (case hop => (apply prd; apply p_move <;> rfl)); (case hq => kernel_rfl))
    all_goals (apply dtk 1; (case hi => rfl); (case hop => first | (apply r_loadNo; (case hx => rfl); (case h => (repeat (exact mhd _))); (case hd => (repeat (first | with_reducible exact dt_nil | apply dt_here))); (case hn => rfl)) | (apply r_load1; rfl; (apply Cell.own; (case h => (repeat (fail))); rfl)) | (apply r_loadN; rfl; (apply CellsAt.own; (case h => (repeat (fail)))); rfl)); (case hq => kernel_rfl))
    all_goals (apply dtk 2; (case hi => rfl); (case hop => (apply prd; apply p_assign <;> rfl)); (case hq => kernel_rfl))
    all_goals (apply d_store 3; (case hi => rfl); (case hr => kernel_rfl); (case hL => infer_instance); (case hp => rfl); (case hx => rfl); (case hc => rfl); (case hsz => rfl); (case h1 => rfl); (case hb => (repeat (first | exact mhd _ | apply mtl))); (case hfit => exact nle rfl); (case hov => ((repeat (first | with_reducible exact ov_nil | apply ov_cons)); done)); (case hu => repeat (first | exact Upd.here _ _ | apply Upd.there)); (case hν' => intro e he; (simp at he; simp [he]; done)))
    all_goals (apply d_done; (case hr => kernel_rfl))
    repeat' (fail)
    refine v_retM [] (outsM_tc (sz1 := 6) (vs1 := [.int .i64 client, .int .i64 seq, .int .i64 0, .bool true, .string f.val, .int .i64 0]) (e1 := 40) rfl rfl rfl (by repeat (first | exact mhd _ | apply mtl)) rfl) (List.nil_sublist _) ⟨GH.le_refl _, rfl, _, rfl, hs⟩
theorem psOk_sized {z : Int} {l : List Pr} (h : PsOk z l) : Sized l := fun x hx => by
  have := (h.2.2 x hx).1
  have a := keyB_size this.1
  have b := valB_size this.2
  omega
theorem refDo_s {G : GH} {l : List Pr} {sv : Value} {z : Int} (c : Cm) (hs : Prs G sv l) (hok : PsOk z l) (hz : z = 1 ∨ z = 2) (hk : 2 ≤ c.kind ∧ c.kind ≤ 5) (h5 : c.kind = 5 → z = 2) (hkz : c.key.size ≤ 200) :
    Con Tryz.prog 156 #[.int .i64 z, sv, .agg c.cells.toArray] G [] (DoPost G (doS z l c)) := by
  have hsz := psOk_sized hok
  have hn : l.length ≤ 200 := by have := hok.1; omega
  have qp := refPlace_s c.key hs hok.2.1 hsz hkz
  rw [doR_eq c hz hk h5]
  unfold doR prR
  obtain ⟨A, c0, rfl, hlc, hcm, hsome, hcp⟩ := rowOpen hs
  obtain ⟨kind, client, seq, key, val, old, node⟩ := c
  simp only at *
  cases hh : hitG ksP l (kn key) with
  | false =>
    have hf : findP l (kn key) = zeroPr := by unfold findP; rw [dif_neg (by rw [hh]; simp)]
    rw [hh, if_neg (by simp)] at qp
    rw [hf]
    have e2 : nextR zeroPr.rev = 1 := by decide
    rcases hz with rfl | rfl
    · have := doN1 kind client seq key val old node hs hok.2.1 hsz hn hkz hk (fun h => absurd (h5 h) (by omega)) qp
      simpa [ans0, zeroPr] using this
    · have := doN2 kind client seq key val old node hs hok.2.1 hsz hn hkz hk qp
      rw [e2]
      simpa [ans0, zeroPr] using this
  | true =>
    have hlt := hitG_lt hh
    have hf : findP l (kn key) = l[placeG ksP l (kn key)] := by unfold findP; rw [dif_pos hh]
    rw [hh, if_pos rfl] at qp
    rw [hf]
    have hck := hcp _ hlt
    have hrev := (hok.2.2 _ (List.getElem_mem hlt)).2
    unfold RevOk at hrev
    generalize l[placeG ksP l (kn key)] = f at *
    generalize placeG ksP l (kn key) = i at *
    rcases hz with rfl | rfl
    · have := doH1 kind client seq key val old node hs hok.2.1 hsz hn hkz hk (fun h => absurd (h5 h) (by omega)) i hlt f hck qp
      simpa [ans0] using this
    · by_cases hb : f.rev < 4294967296
      · have e2 : nextR f.rev = f.rev + 1 := by unfold nextR; omega
        have := doH2 kind client seq key val old node hs hok.2.1 hsz hn hkz hk i hlt f hck hb (by omega) qp
        rw [e2]
        simpa [ans0] using this
      · have e2 : nextR f.rev = f.rev := by unfold nextR; omega
        have := doF2 kind client seq key val old node hs hok.2.1 hsz hn hkz hk i hlt f hck (by omega) (by omega) qp
        rw [e2]
        simpa [ans0] using this
theorem which_last {l : List Ss} (h : SesP l) {n q : Int} (hq : 1 ≤ q) :
    ((whichS l n q).1 = 1 ↔ (0 < (lastS l n).1 ∧ q = (lastS l n).1)) ∧ ((whichS l n q).1 = 2 ↔ q < (lastS l n).1) ∧ ((whichS l n q).1 = 1 → (whichS l n q).2 = (lastS l n).2) := by
  unfold whichS lastS
  cases hh : hitG ksS l n with
  | false => simp; omega
  | true =>
    have hm := sesAt_mem (riseG_pw.1 (adjS_rise h.1)) hh
    obtain ⟨h1, h2, h3⟩ := h.2 _ hm.1
    have h4 := (ansI_zero.1 h3).1.2.1
    simp only [Bool.true_eq_false, if_false, if_true]
    by_cases a : (sesAt l n).seq < q
    · rw [if_pos a]; simp; omega
    · rw [if_neg a]
      by_cases b : q = (sesAt l n).seq
      · rw [if_pos b]; simp; omega
      · rw [if_neg b]; simp; omega
set_option maxHeartbeats 1000000 in
theorem refApply_s {G : GH} {s : St} {v : Value} (c : Cm) (hs : StV G s v) (hok : StP s) (hc : cmdI c = 0) (hkz : c.key.size ≤ 200) :
    Con Tryz.prog 90 #[v, .agg c.cells.toArray] G [] (fun r G' μ' => GH.le G G' ∧ μ' = [] ∧ ∃ v', r = .tuple [v', .agg (applyS s c).2.1.cells.toArray].toArray ∧ StV G' (applyS s c).1 v') := by
  obtain ⟨A, c0, A', c', rfl, hp, hss⟩ := id hs
  obtain ⟨h1, h2, h3, h4⟩ := stP_iff.1 hok
  have hrw := riseG_pw.1 (adjS_rise h1.1)
  have qo := owned_s G c.kind
  have qh := refHas7_s s.schema c.kind G
  have ql := refLast_s c.client hss hrw
  have qr := refRevs_s 2 1 hs (by have := h3.1; omega)
  have qd := fun a b => refDo_s (z := s.schema) c hp h3 h2 a b hkz
  have qs := fun G' (hle : GH.le G G') a => refSWith_s a (hss.mono hle) hrw (by have := sesP_few h1; omega)
  have hc' := (cmd_ok hc).2.1
  have hwl := fun (hq : 1 ≤ c.seq) => which_last (n := c.client) (q := c.seq) h1 hq
  have hup : revsS s 2 1 = upS s := rfl
  have hvs : verS s.schema = s.schema := by unfold verS; rcases h2 with h | h <;> rw [h] <;> simp
  unfold applyS clientS
  rw [if_neg (by simp [hc]), hvs]
  clear hc hvs
  obtain ⟨schema, lp, ls⟩ := s
  obtain ⟨kind, cl, seq, key, val, old, node⟩ := c
  simp only at *
  generalize whichS ls cl seq = w at *
  obtain ⟨wk, wa⟩ := w
  generalize lastS ls cl = la at *
  obtain ⟨lq, ⟨ac, aq, ae, af, av, ar⟩⟩ := la
  generalize doS schema lp ⟨kind, cl, seq, key, val, old, node⟩ = dd at *
  obtain ⟨l1, d⟩ := dd
  obtain ⟨dc, dq, de, df, dv, dr⟩ := d
  simp only at *
  (refine v_enter Tryz.func90 rfl Tryz.ntmps90 rfl ?_; intro B _)
  by_cases ho : 2 ≤ kind ∧ kind ≤ 5
  · rw [decide_eq_true ho] at qo
    rw [if_pos ho]
    obtain ⟨hc1, hc2, hc3⟩ := hc' ho
    obtain ⟨w1, w2, w3⟩ := hwl hc2.1
    by_cases hh : HasP schema kind
    · rw [decide_eq_true hh] at qh
      repeat' (first | (apply v_box (d := 2) (zs := [.int .i64 schema, .slice A lp.length c0, .slice A' ls.length c']); (case hx => rfl); (case hz => rfl); (case hd => rfl); intro b2) | (apply v_box (d := 3) (zs := Cm.cells ⟨kind, cl, seq, key, val, old, node⟩); (case hx => rfl); (case hz => rfl); (case hd => rfl); intro b3) | (apply v_alloc (d := 4); (case hz => rfl); (case hd => rfl); intro b4) | (apply v_alloc (d := 5); (case hz => rfl); (case hd => rfl); intro b5) | (apply v_alloc (d := 7); (case hz => rfl); (case hd => rfl); intro b7) | (apply v_alloc (d := 8); (case hz => rfl); (case hd => rfl); intro b8) | (apply v_read; (case hop => (apply r_loadNo; (case hx => rfl); (case h => repeat (first | exact mhd _ | apply mtl)); (case hd => rfl); (case hn => rfl))); (case hd => rfl)) | apply v_seq | apply v_region | apply v_nil | apply v_skip | (apply v_take; (case hg => rfl)) | (apply v_pass; (case hg => rfl); (case hn => rfl); (case hd => rfl)) | (apply v_pure; (case hop => first | (apply p_move <;> rfl) | (apply p_eq <;> rfl) | (apply p_lt <;> rfl) | (apply p_gt <;> rfl) | (apply p_assign <;> rfl) | (apply p_pickT <;> rfl) | (apply p_pickF <;> rfl) | (apply p_not <;> rfl) | (apply p_fieldAddrB <;> rfl) | (apply p_extract0 <;> rfl) | (apply p_extract1 <;> rfl) | (apply p_build; (case hz => rfl); (case hv => (simp only [List.map_cons, List.map_nil]; repeat (first | with_reducible exact evs_nil | (apply evs_cons; (case h1 => rfl))))); (case hb => (apply bldL; repeat (first | exact bld_nil | (apply bld_cons; (case hpf => rfl); (case hc => rfl); (case hs => rfl); (case hl => rfl); (case ho => ((repeat (first | with_reducible exact ov_nil | apply ov_cons)); done))))))) | fail); (case hd => rfl)) | (apply v_condF; (case hc => rfl)) | (apply v_cond; (case hc => rfl); all_goals (intro h; (try simp only [reduceCtorEq, zzz] at h); first | (exfalso; omega) | skip)) | (apply v_guardB; (case h1 => rfl); (case h2 => rfl); all_goals (intro h; (try simp only [reduceCtorEq, zzz] at h))) | (apply v_callJ (hs := qo); (case ha => rfl); (case hd => rfl)) | (apply v_callJ (hs := qh); (case ha => rfl); (case hd => rfl)) | (apply v_callJ (hs := ql); (case ha => rfl); (case hd => rfl)) | (apply v_read; (case hop => (apply r_load1; rfl; (apply Cell.own; (case h => (repeat (first | exact mhd _ | apply mtl))); rfl))); (case hd => rfl)) | (apply v_store; (case hp => rfl); (case hx => rfl); (case hc => rfl); (case hsz => rfl); (case h1 => rfl); (case hb => (repeat (exact mhd _))); (case hfit => exact nle rfl); (case hov => ((repeat (first | with_reducible exact ov_nil | apply ov_cons)); done)); (case hu => repeat (exact Upd.here _ _))) | fail)
      · have hw1 : wk = 1 := w1.2 ⟨by omega, by omega⟩
        obtain rfl := w3 hw1
        rw [if_pos hw1]
        refine d_start [(b2, .cells [.int .i64 schema, .slice A lp.length c0, .slice A' ls.length c'].toArray 32 (0, 0)), (b7, .cells [.int .i64 ac, .int .i64 aq, .int .i64 ae, .bool af, .string av, .int .i64 ar].toArray 40 (0, 0))] (by kernel_rfl) (by kernel_rfl) (by kernel_rfl) (by intro e he; (simp only [List.mem_cons, List.not_mem_nil, or_false] at he; rcases he with rfl | rfl <;> simp; done)) ?_
        all_goals (apply dtk 0; (case hi => rfl); (case hop => first | (apply r_loadNo; (case hx => rfl); (case h => (repeat (exact mhd _))); (case hd => (repeat (first | with_reducible exact dt_nil | apply dt_here))); (case hn => rfl)) | (apply r_load1; rfl; (apply Cell.own; (case h => (repeat (fail))); rfl)) | (apply r_loadN; rfl; (apply CellsAt.own; (case h => (repeat (fail)))); rfl)); (case hq => kernel_rfl))
        all_goals (apply dtk 1; (case hi => rfl); (case hop => first | (apply r_loadNo; (case hx => rfl); (case h => (repeat (first | exact mhd _ | apply mtl))); (case hd => (repeat (first | with_reducible exact dt_nil | apply dt_here))); (case hn => rfl)) | (apply r_load1; rfl; (apply Cell.own; (case h => (repeat (fail))); rfl)) | (apply r_loadN; rfl; (apply CellsAt.own; (case h => (repeat (fail)))); rfl)); (case hq => kernel_rfl))
        all_goals (apply d_store 2; (case hi => rfl); (case hr => kernel_rfl); (case hL => infer_instance); (case hp => rfl); (case hx => rfl); (case hc => rfl); (case hsz => rfl); (case h1 => rfl); (case hb => (repeat (first | exact mhd _ | apply mtl))); (case hfit => exact nle rfl); (case hov => ((repeat (first | with_reducible exact ov_nil | apply ov_cons)); done)); (case hu => repeat (first | exact Upd.here _ _ | apply Upd.there)); (case hν' => intro e he; (simp only [List.mem_cons, List.not_mem_nil, or_false] at he; rcases he with rfl | rfl <;> simp; done)))
        all_goals (apply d_store 3; (case hi => rfl); (case hr => kernel_rfl); (case hL => infer_instance); (case hp => rfl); (case hx => rfl); (case hc => rfl); (case hsz => rfl); (case h1 => rfl); (case hb => (repeat (first | exact mhd _ | apply mtl))); (case hfit => exact nle rfl); (case hov => ((repeat (first | with_reducible exact ov_nil | apply ov_cons)); done)); (case hu => repeat (first | exact Upd.here _ _ | apply Upd.there)); (case hν' => intro e he; (simp only [List.mem_cons, List.not_mem_nil, or_false] at he; rcases he with rfl | rfl <;> simp; done)))
        all_goals (apply d_done; (case hr => kernel_rfl))
        repeat' (fail)
        refine v_retM [] (outsM_cc (sz0 := 3) (vs0 := [.int .i64 schema, .slice A lp.length c0, .slice A' ls.length c']) (e0 := 32) (sz1 := 6) (vs1 := [.int .i64 ac, .int .i64 aq, .int .i64 ae, .bool af, .string av, .int .i64 ar]) (e1 := 40) rfl rfl (by repeat (first | exact mhd _ | apply mtl)) rfl rfl (by repeat (first | exact mhd _ | apply mtl)) rfl) (List.nil_sublist _) ⟨GH.le_refl _, rfl, _, rfl, hs⟩
      · rw [if_neg (fun h => by have := w1.1 h; omega), if_pos (w2.2 (by omega))]
        refine d_start [(b2, .cells [.int .i64 schema, .slice A lp.length c0, .slice A' ls.length c'].toArray 32 (0, 0)), (b8, .cells [.int .i64 cl, .int .i64 seq, .int .i64 15, .bool false, .string ByteArray.empty, .int .i64 0].toArray 40 (0, 0))] (by kernel_rfl) (by kernel_rfl) (by kernel_rfl) (by intro e he; (simp only [List.mem_cons, List.not_mem_nil, or_false] at he; rcases he with rfl | rfl <;> simp; done)) ?_
        all_goals (apply dtk 0; (case hi => rfl); (case hop => first | (apply r_loadNo; (case hx => rfl); (case h => (repeat (exact mhd _))); (case hd => (repeat (first | with_reducible exact dt_nil | apply dt_here))); (case hn => rfl)) | (apply r_load1; rfl; (apply Cell.own; (case h => (repeat (fail))); rfl)) | (apply r_loadN; rfl; (apply CellsAt.own; (case h => (repeat (fail)))); rfl)); (case hq => kernel_rfl))
        all_goals (apply dtk 1; (case hi => rfl); (case hop => first | (apply r_loadNo; (case hx => rfl); (case h => (repeat (first | exact mhd _ | apply mtl))); (case hd => (repeat (first | with_reducible exact dt_nil | apply dt_here))); (case hn => rfl)) | (apply r_load1; rfl; (apply Cell.own; (case h => (repeat (fail))); rfl)) | (apply r_loadN; rfl; (apply CellsAt.own; (case h => (repeat (fail)))); rfl)); (case hq => kernel_rfl))
        all_goals (apply d_store 2; (case hi => rfl); (case hr => kernel_rfl); (case hL => infer_instance); (case hp => rfl); (case hx => rfl); (case hc => rfl); (case hsz => rfl); (case h1 => rfl); (case hb => (repeat (first | exact mhd _ | apply mtl))); (case hfit => exact nle rfl); (case hov => ((repeat (first | with_reducible exact ov_nil | apply ov_cons)); done)); (case hu => repeat (first | exact Upd.here _ _ | apply Upd.there)); (case hν' => intro e he; (simp only [List.mem_cons, List.not_mem_nil, or_false] at he; rcases he with rfl | rfl <;> simp; done)))
        all_goals (apply d_store 3; (case hi => rfl); (case hr => kernel_rfl); (case hL => infer_instance); (case hp => rfl); (case hx => rfl); (case hc => rfl); (case hsz => rfl); (case h1 => rfl); (case hb => (repeat (first | exact mhd _ | apply mtl))); (case hfit => exact nle rfl); (case hov => ((repeat (first | with_reducible exact ov_nil | apply ov_cons)); done)); (case hu => repeat (first | exact Upd.here _ _ | apply Upd.there)); (case hν' => intro e he; (simp only [List.mem_cons, List.not_mem_nil, or_false] at he; rcases he with rfl | rfl <;> simp; done)))
        all_goals (apply d_done; (case hr => kernel_rfl))
        repeat' (fail)
        refine v_retM [] (outsM_cc (sz0 := 3) (vs0 := [.int .i64 schema, .slice A lp.length c0, .slice A' ls.length c']) (e0 := 32) (sz1 := 6) (vs1 := [.int .i64 cl, .int .i64 seq, .int .i64 15, .bool false, .string ByteArray.empty, .int .i64 0]) (e1 := 40) rfl rfl (by repeat (first | exact mhd _ | apply mtl)) rfl rfl (by repeat (first | exact mhd _ | apply mtl)) rfl) (List.nil_sublist _) ⟨GH.le_refl _, rfl, _, rfl, hs⟩
      · rw [if_neg (fun h => by have := w1.1 h; omega), if_neg (fun h => by have := w2.1 h; omega), if_pos hh]
        refine v_call (μ1 := []) rfl (qd ho (fun h => by have := hh.2.2.2 h; omega)) (List.Perm.refl _) rfl ?_
        rintro _ G3 _ hle3 ⟨-, rfl, v3, rfl, hp3⟩
        obtain ⟨A3, c3, rfl, -⟩ := id hp3.open
        have qw := qs G3 hle3 ⟨dc, dq, de, df, dv, dr⟩
        repeat' (first | (apply v_alloc (d := 10); (case hz => rfl); (case hd => rfl); intro b10) | apply v_seq | apply v_nil | (apply v_pure; (case hop => first | (apply p_move <;> rfl) | (apply p_assign <;> rfl) | (apply p_extract0 <;> rfl) | (apply p_extract1 <;> rfl) | fail); (case hd => rfl)) | (apply v_store; (case hp => rfl); (case hx => rfl); (case hc => rfl); (case hsz => rfl); (case h1 => rfl); (case hb => (repeat (exact mhd _))); (case hfit => exact nle rfl); (case hov => ((repeat (first | with_reducible exact ov_nil | apply ov_cons)); done)); (case hu => repeat (exact Upd.here _ _))) | fail)
        refine d_start [(b2, .cells [.int .i64 schema, .slice A lp.length c0, .slice A' ls.length c'].toArray 32 (0, 0)), (b10, .cells [.int .i64 dc, .int .i64 dq, .int .i64 de, .bool df, .string dv, .int .i64 dr].toArray 40 (0, 0))] (by kernel_rfl) (by kernel_rfl) (by kernel_rfl) (by intro e he; (simp only [List.mem_cons, List.not_mem_nil, or_false] at he; rcases he with rfl | rfl <;> simp; done)) ?_
        all_goals (apply dtk 0; (case hi => rfl); (case hop => (apply prd; apply p_fieldAddrB <;> rfl)); (case hq => kernel_rfl))
        all_goals (apply dtk 1; (case hi => rfl); (case hop => first | (apply r_loadNo; (case hx => rfl); (case h => (repeat (fail))); (case hd => (repeat (fail))); (case hn => rfl)) | (apply r_load1; rfl; (apply Cell.own; (case h => (repeat (exact mhd _))); rfl)) | (apply r_loadN; rfl; (apply CellsAt.own; (case h => (repeat (fail)))); rfl)); (case hq => kernel_rfl))
        all_goals (apply dtk 2; (case hi => rfl); (case hop => (apply prd; apply p_move <;> rfl)); (case hq => kernel_rfl))
        all_goals (apply dtk 3; (case hi => rfl); (case hop => (apply prd; apply p_fieldAddrB <;> rfl)); (case hq => kernel_rfl))
        all_goals (apply dtk 4; (case hi => rfl); (case hop => first | (apply r_loadNo; (case hx => rfl); (case h => (repeat (fail))); (case hd => (repeat (fail))); (case hn => rfl)) | (apply r_load1; rfl; (apply Cell.own; (case h => (repeat (exact mhd _))); rfl)) | (apply r_loadN; rfl; (apply CellsAt.own; (case h => (repeat (fail)))); rfl)); (case hq => kernel_rfl))
        all_goals (apply dtk 5; (case hi => rfl); (case hop => first | (apply r_loadNo; (case hx => rfl); (case h => (repeat (first | exact mhd _ | apply mtl))); (case hd => (repeat (first | with_reducible exact dt_nil | apply dt_here))); (case hn => rfl)) | (apply r_load1; rfl; (apply Cell.own; (case h => (repeat (fail))); rfl)) | (apply r_loadN; rfl; (apply CellsAt.own; (case h => (repeat (fail)))); rfl)); (case hq => kernel_rfl))
        all_goals (apply dtk 8; (case hi => rfl); (case hop => first | (apply r_loadNo; (case hx => rfl); (case h => (repeat (first | exact mhd _ | apply mtl))); (case hd => (repeat (first | with_reducible exact dt_nil | apply dt_here))); (case hn => rfl)) | (apply r_load1; rfl; (apply Cell.own; (case h => (repeat (fail))); rfl)) | (apply r_loadN; rfl; (apply CellsAt.own; (case h => (repeat (fail)))); rfl)); (case hq => kernel_rfl))
        all_goals ((apply d_call 6 (hs := qw) (μ1 := []) (μ2 := [(b10, .cells [.int .i64 dc, .int .i64 dq, .int .i64 de, .bool df, .string dv, .int .i64 dr].toArray 40 (0, 0)), (b8, .cells [.int .i64 cl, .int .i64 seq, .int .i64 0, .bool false, .string ByteArray.empty, .int .i64 0].toArray 40 (0, 0)), (b7, .cells [.int .i64 ac, .int .i64 aq, .int .i64 ae, .bool af, .string av, .int .i64 ar].toArray 40 (0, 0)), (b5, .cells [.int .i64 0, .int .i64 0, .int .i64 0, .bool false, .string ByteArray.empty, .int .i64 0].toArray 40 (0, 0)), (b4, .cells [.int .i64 0, .slice none 0 0, .slice none 0 0].toArray 32 (0, 0)), (b3, .cells (Cm.cells ⟨kind, cl, seq, key, val, old, node⟩).toArray 28 (0, 0)), (b2, .cells [.int .i64 schema, .slice A lp.length c0, .slice A' ls.length c'].toArray 32 (0, 0))]); (case hi => rfl); (case hr => kernel_rfl);  (case ha => rfl); (case hp => exact List.Perm.refl _); (case hd => rfl); (case hν' => intro e he; simp only [List.mem_cons, List.not_mem_nil, or_false] at he; rcases he with rfl | rfl <;> simp); rintro v4 G4 _ hle4 ⟨-, rfl, hw4⟩; obtain ⟨A4, c4, rfl, -⟩ := id hw4.open))
        all_goals (apply dtk 7; (case hi => rfl); (case hop => (apply prd; apply p_build; (case hz => rfl); (case hv => (simp only [List.map_cons, List.map_nil]; repeat (first | with_reducible exact evs_nil | (apply evs_cons; (case h1 => rfl))))); (case hb => (apply bldL; repeat (first | exact bld_nil | (apply bld_cons; (case hpf => rfl); (case hc => rfl); (case hs => rfl); (case hl => rfl); (case ho => ((repeat (first | with_reducible exact ov_nil | apply ov_cons)); done)))))))); (case hq => kernel_rfl))
        all_goals (apply d_store 9; (case hi => rfl); (case hr => kernel_rfl); (case hL => infer_instance); (case hp => rfl); (case hx => rfl); (case hc => rfl); (case hsz => rfl); (case h1 => rfl); (case hb => (repeat (first | exact mhd _ | apply mtl))); (case hfit => exact nle rfl); (case hov => ((repeat (first | with_reducible exact ov_nil | apply ov_cons)); done)); (case hu => repeat (first | exact Upd.here _ _ | apply Upd.there)); (case hν' => intro e he; (simp only [List.mem_cons, List.not_mem_nil, or_false] at he; rcases he with rfl | rfl <;> simp; done)))
        all_goals (apply d_store 10; (case hi => rfl); (case hr => kernel_rfl); (case hL => infer_instance); (case hp => rfl); (case hx => rfl); (case hc => rfl); (case hsz => rfl); (case h1 => rfl); (case hb => (repeat (first | exact mhd _ | apply mtl))); (case hfit => exact nle rfl); (case hov => ((repeat (first | with_reducible exact ov_nil | apply ov_cons)); done)); (case hu => repeat (first | exact Upd.here _ _ | apply Upd.there)); (case hν' => intro e he; (simp only [List.mem_cons, List.not_mem_nil, or_false] at he; rcases he with rfl | rfl <;> simp; done)))
        all_goals (apply d_done; (case hr => kernel_rfl))
        repeat' (fail)
        refine v_retM [] (outsM_cc (sz0 := 3) (vs0 := [.int .i64 schema, .slice A3 l1.length c3, .slice A4 (withG ksS ls (sesOf ⟨dc, dq, de, df, dv, dr⟩)).length c4]) (e0 := 32) (sz1 := 6) (vs1 := [.int .i64 dc, .int .i64 dq, .int .i64 de, .bool df, .string dv, .int .i64 dr]) (e1 := 40) rfl rfl (by repeat (first | exact mhd _ | apply mtl)) rfl rfl (by repeat (first | exact mhd _ | apply mtl)) rfl) (List.nil_sublist _) ⟨GH.le_trans hle3 hle4, rfl, _, rfl, A3, c3, A4, c4, rfl, hp3.mono hle4, hw4⟩
      · rw [if_neg (fun h => by have := w1.1 h; omega), if_neg (fun h => by have := w2.1 h; omega), if_pos hh]
        refine v_call (μ1 := []) rfl (qd ho (fun h => by have := hh.2.2.2 h; omega)) (List.Perm.refl _) rfl ?_
        rintro _ G3 _ hle3 ⟨-, rfl, v3, rfl, hp3⟩
        obtain ⟨A3, c3, rfl, -⟩ := id hp3.open
        have qw := qs G3 hle3 ⟨dc, dq, de, df, dv, dr⟩
        repeat' (first | (apply v_alloc (d := 10); (case hz => rfl); (case hd => rfl); intro b10) | apply v_seq | apply v_nil | (apply v_pure; (case hop => first | (apply p_move <;> rfl) | (apply p_assign <;> rfl) | (apply p_extract0 <;> rfl) | (apply p_extract1 <;> rfl) | fail); (case hd => rfl)) | (apply v_store; (case hp => rfl); (case hx => rfl); (case hc => rfl); (case hsz => rfl); (case h1 => rfl); (case hb => (repeat (exact mhd _))); (case hfit => exact nle rfl); (case hov => ((repeat (first | with_reducible exact ov_nil | apply ov_cons)); done)); (case hu => repeat (exact Upd.here _ _))) | fail)
        refine d_start [(b2, .cells [.int .i64 schema, .slice A lp.length c0, .slice A' ls.length c'].toArray 32 (0, 0)), (b10, .cells [.int .i64 dc, .int .i64 dq, .int .i64 de, .bool df, .string dv, .int .i64 dr].toArray 40 (0, 0))] (by kernel_rfl) (by kernel_rfl) (by kernel_rfl) (by intro e he; (simp only [List.mem_cons, List.not_mem_nil, or_false] at he; rcases he with rfl | rfl <;> simp; done)) ?_
        all_goals (apply dtk 0; (case hi => rfl); (case hop => (apply prd; apply p_fieldAddrB <;> rfl)); (case hq => kernel_rfl))
        all_goals (apply dtk 1; (case hi => rfl); (case hop => first | (apply r_loadNo; (case hx => rfl); (case h => (repeat (fail))); (case hd => (repeat (fail))); (case hn => rfl)) | (apply r_load1; rfl; (apply Cell.own; (case h => (repeat (exact mhd _))); rfl)) | (apply r_loadN; rfl; (apply CellsAt.own; (case h => (repeat (fail)))); rfl)); (case hq => kernel_rfl))
        all_goals (apply dtk 2; (case hi => rfl); (case hop => (apply prd; apply p_move <;> rfl)); (case hq => kernel_rfl))
        all_goals (apply dtk 3; (case hi => rfl); (case hop => (apply prd; apply p_fieldAddrB <;> rfl)); (case hq => kernel_rfl))
        all_goals (apply dtk 4; (case hi => rfl); (case hop => first | (apply r_loadNo; (case hx => rfl); (case h => (repeat (fail))); (case hd => (repeat (fail))); (case hn => rfl)) | (apply r_load1; rfl; (apply Cell.own; (case h => (repeat (exact mhd _))); rfl)) | (apply r_loadN; rfl; (apply CellsAt.own; (case h => (repeat (fail)))); rfl)); (case hq => kernel_rfl))
        all_goals (apply dtk 5; (case hi => rfl); (case hop => first | (apply r_loadNo; (case hx => rfl); (case h => (repeat (first | exact mhd _ | apply mtl))); (case hd => (repeat (first | with_reducible exact dt_nil | apply dt_here))); (case hn => rfl)) | (apply r_load1; rfl; (apply Cell.own; (case h => (repeat (fail))); rfl)) | (apply r_loadN; rfl; (apply CellsAt.own; (case h => (repeat (fail)))); rfl)); (case hq => kernel_rfl))
        all_goals (apply dtk 8; (case hi => rfl); (case hop => first | (apply r_loadNo; (case hx => rfl); (case h => (repeat (first | exact mhd _ | apply mtl))); (case hd => (repeat (first | with_reducible exact dt_nil | apply dt_here))); (case hn => rfl)) | (apply r_load1; rfl; (apply Cell.own; (case h => (repeat (fail))); rfl)) | (apply r_loadN; rfl; (apply CellsAt.own; (case h => (repeat (fail)))); rfl)); (case hq => kernel_rfl))
        all_goals ((apply d_call 6 (hs := qw) (μ1 := []) (μ2 := [(b10, .cells [.int .i64 dc, .int .i64 dq, .int .i64 de, .bool df, .string dv, .int .i64 dr].toArray 40 (0, 0)), (b8, .cells [.int .i64 cl, .int .i64 seq, .int .i64 0, .bool false, .string ByteArray.empty, .int .i64 0].toArray 40 (0, 0)), (b7, .cells [.int .i64 ac, .int .i64 aq, .int .i64 ae, .bool af, .string av, .int .i64 ar].toArray 40 (0, 0)), (b5, .cells [.int .i64 0, .int .i64 0, .int .i64 0, .bool false, .string ByteArray.empty, .int .i64 0].toArray 40 (0, 0)), (b4, .cells [.int .i64 0, .slice none 0 0, .slice none 0 0].toArray 32 (0, 0)), (b3, .cells (Cm.cells ⟨kind, cl, seq, key, val, old, node⟩).toArray 28 (0, 0)), (b2, .cells [.int .i64 schema, .slice A lp.length c0, .slice A' ls.length c'].toArray 32 (0, 0))]); (case hi => rfl); (case hr => kernel_rfl);  (case ha => rfl); (case hp => exact List.Perm.refl _); (case hd => rfl); (case hν' => intro e he; simp only [List.mem_cons, List.not_mem_nil, or_false] at he; rcases he with rfl | rfl <;> simp); rintro v4 G4 _ hle4 ⟨-, rfl, hw4⟩; obtain ⟨A4, c4, rfl, -⟩ := id hw4.open))
        all_goals (apply dtk 7; (case hi => rfl); (case hop => (apply prd; apply p_build; (case hz => rfl); (case hv => (simp only [List.map_cons, List.map_nil]; repeat (first | with_reducible exact evs_nil | (apply evs_cons; (case h1 => rfl))))); (case hb => (apply bldL; repeat (first | exact bld_nil | (apply bld_cons; (case hpf => rfl); (case hc => rfl); (case hs => rfl); (case hl => rfl); (case ho => ((repeat (first | with_reducible exact ov_nil | apply ov_cons)); done)))))))); (case hq => kernel_rfl))
        all_goals (apply d_store 9; (case hi => rfl); (case hr => kernel_rfl); (case hL => infer_instance); (case hp => rfl); (case hx => rfl); (case hc => rfl); (case hsz => rfl); (case h1 => rfl); (case hb => (repeat (first | exact mhd _ | apply mtl))); (case hfit => exact nle rfl); (case hov => ((repeat (first | with_reducible exact ov_nil | apply ov_cons)); done)); (case hu => repeat (first | exact Upd.here _ _ | apply Upd.there)); (case hν' => intro e he; (simp only [List.mem_cons, List.not_mem_nil, or_false] at he; rcases he with rfl | rfl <;> simp; done)))
        all_goals (apply d_store 10; (case hi => rfl); (case hr => kernel_rfl); (case hL => infer_instance); (case hp => rfl); (case hx => rfl); (case hc => rfl); (case hsz => rfl); (case h1 => rfl); (case hb => (repeat (first | exact mhd _ | apply mtl))); (case hfit => exact nle rfl); (case hov => ((repeat (first | with_reducible exact ov_nil | apply ov_cons)); done)); (case hu => repeat (first | exact Upd.here _ _ | apply Upd.there)); (case hν' => intro e he; (simp only [List.mem_cons, List.not_mem_nil, or_false] at he; rcases he with rfl | rfl <;> simp; done)))
        all_goals (apply d_done; (case hr => kernel_rfl))
        repeat' (fail)
        refine v_retM [] (outsM_cc (sz0 := 3) (vs0 := [.int .i64 schema, .slice A3 l1.length c3, .slice A4 (withG ksS ls (sesOf ⟨dc, dq, de, df, dv, dr⟩)).length c4]) (e0 := 32) (sz1 := 6) (vs1 := [.int .i64 dc, .int .i64 dq, .int .i64 de, .bool df, .string dv, .int .i64 dr]) (e1 := 40) rfl rfl (by repeat (first | exact mhd _ | apply mtl)) rfl rfl (by repeat (first | exact mhd _ | apply mtl)) rfl) (List.nil_sublist _) ⟨GH.le_trans hle3 hle4, rfl, _, rfl, A3, c3, A4, c4, rfl, hp3.mono hle4, hw4⟩
    · rw [decide_eq_false hh] at qh
      repeat' (first | (apply v_box (d := 2) (zs := [.int .i64 schema, .slice A lp.length c0, .slice A' ls.length c']); (case hx => rfl); (case hz => rfl); (case hd => rfl); intro b2) | (apply v_box (d := 3) (zs := Cm.cells ⟨kind, cl, seq, key, val, old, node⟩); (case hx => rfl); (case hz => rfl); (case hd => rfl); intro b3) | (apply v_alloc (d := 4); (case hz => rfl); (case hd => rfl); intro b4) | (apply v_alloc (d := 5); (case hz => rfl); (case hd => rfl); intro b5) | (apply v_alloc (d := 7); (case hz => rfl); (case hd => rfl); intro b7) | (apply v_alloc (d := 8); (case hz => rfl); (case hd => rfl); intro b8) | apply v_seq | apply v_region | apply v_nil | apply v_skip | (apply v_take; (case hg => rfl)) | (apply v_pass; (case hg => rfl); (case hn => rfl); (case hd => rfl)) | (apply v_pure; (case hop => first | (apply p_move <;> rfl) | (apply p_eq <;> rfl) | (apply p_lt <;> rfl) | (apply p_gt <;> rfl) | (apply p_assign <;> rfl) | (apply p_pickT <;> rfl) | (apply p_pickF <;> rfl) | (apply p_not <;> rfl) | (apply p_fieldAddrB <;> rfl) | (apply p_extract0 <;> rfl) | (apply p_extract1 <;> rfl) | (apply p_build; (case hz => rfl); (case hv => (simp only [List.map_cons, List.map_nil]; repeat (first | with_reducible exact evs_nil | (apply evs_cons; (case h1 => rfl))))); (case hb => (apply bldL; repeat (first | exact bld_nil | (apply bld_cons; (case hpf => rfl); (case hc => rfl); (case hs => rfl); (case hl => rfl); (case ho => ((repeat (first | with_reducible exact ov_nil | apply ov_cons)); done))))))) | fail); (case hd => rfl)) | (apply v_condT; (case hc => rfl)) | (apply v_condF; (case hc => rfl)) | (apply v_cond; (case hc => rfl); all_goals (intro h; (try simp only [reduceCtorEq, zzz] at h); first | (exfalso; omega) | skip)) | (apply v_guardB; (case h1 => rfl); (case h2 => rfl); all_goals (intro h; (try simp only [reduceCtorEq, zzz] at h))) | (apply v_callJ (hs := qo); (case ha => rfl); (case hd => rfl)) | (apply v_callJ (hs := qh); (case ha => rfl); (case hd => rfl)) | (apply v_callJ (hs := ql); (case ha => rfl); (case hd => rfl)) | (apply v_read; (case hop => (apply r_load1; rfl; (apply Cell.own; (case h => (repeat (first | exact mhd _ | apply mtl))); rfl))); (case hd => rfl)) | (apply v_store; (case hp => rfl); (case hx => rfl); (case hc => rfl); (case hsz => rfl); (case h1 => rfl); (case hb => (repeat (exact mhd _))); (case hfit => exact nle rfl); (case hov => ((repeat (first | with_reducible exact ov_nil | apply ov_cons)); done)); (case hu => repeat (exact Upd.here _ _))) | fail)
      · have hw1 : wk = 1 := w1.2 ⟨by omega, by omega⟩
        obtain rfl := w3 hw1
        rw [if_pos hw1]
        refine d_start [(b2, .cells [.int .i64 schema, .slice A lp.length c0, .slice A' ls.length c'].toArray 32 (0, 0)), (b7, .cells [.int .i64 ac, .int .i64 aq, .int .i64 ae, .bool af, .string av, .int .i64 ar].toArray 40 (0, 0))] (by kernel_rfl) (by kernel_rfl) (by kernel_rfl) (by intro e he; (simp only [List.mem_cons, List.not_mem_nil, or_false] at he; rcases he with rfl | rfl <;> simp; done)) ?_
        all_goals (apply dtk 0; (case hi => rfl); (case hop => first | (apply r_loadNo; (case hx => rfl); (case h => (repeat (exact mhd _))); (case hd => (repeat (first | with_reducible exact dt_nil | apply dt_here))); (case hn => rfl)) | (apply r_load1; rfl; (apply Cell.own; (case h => (repeat (fail))); rfl)) | (apply r_loadN; rfl; (apply CellsAt.own; (case h => (repeat (fail)))); rfl)); (case hq => kernel_rfl))
        all_goals (apply dtk 1; (case hi => rfl); (case hop => first | (apply r_loadNo; (case hx => rfl); (case h => (repeat (first | exact mhd _ | apply mtl))); (case hd => (repeat (first | with_reducible exact dt_nil | apply dt_here))); (case hn => rfl)) | (apply r_load1; rfl; (apply Cell.own; (case h => (repeat (fail))); rfl)) | (apply r_loadN; rfl; (apply CellsAt.own; (case h => (repeat (fail)))); rfl)); (case hq => kernel_rfl))
        all_goals (apply d_store 2; (case hi => rfl); (case hr => kernel_rfl); (case hL => infer_instance); (case hp => rfl); (case hx => rfl); (case hc => rfl); (case hsz => rfl); (case h1 => rfl); (case hb => (repeat (first | exact mhd _ | apply mtl))); (case hfit => exact nle rfl); (case hov => ((repeat (first | with_reducible exact ov_nil | apply ov_cons)); done)); (case hu => repeat (first | exact Upd.here _ _ | apply Upd.there)); (case hν' => intro e he; (simp only [List.mem_cons, List.not_mem_nil, or_false] at he; rcases he with rfl | rfl <;> simp; done)))
        all_goals (apply d_store 3; (case hi => rfl); (case hr => kernel_rfl); (case hL => infer_instance); (case hp => rfl); (case hx => rfl); (case hc => rfl); (case hsz => rfl); (case h1 => rfl); (case hb => (repeat (first | exact mhd _ | apply mtl))); (case hfit => exact nle rfl); (case hov => ((repeat (first | with_reducible exact ov_nil | apply ov_cons)); done)); (case hu => repeat (first | exact Upd.here _ _ | apply Upd.there)); (case hν' => intro e he; (simp only [List.mem_cons, List.not_mem_nil, or_false] at he; rcases he with rfl | rfl <;> simp; done)))
        all_goals (apply d_done; (case hr => kernel_rfl))
        repeat' (fail)
        refine v_retM [] (outsM_cc (sz0 := 3) (vs0 := [.int .i64 schema, .slice A lp.length c0, .slice A' ls.length c']) (e0 := 32) (sz1 := 6) (vs1 := [.int .i64 ac, .int .i64 aq, .int .i64 ae, .bool af, .string av, .int .i64 ar]) (e1 := 40) rfl rfl (by repeat (first | exact mhd _ | apply mtl)) rfl rfl (by repeat (first | exact mhd _ | apply mtl)) rfl) (List.nil_sublist _) ⟨GH.le_refl _, rfl, _, rfl, hs⟩
      · rw [if_neg (fun h => by have := w1.1 h; omega), if_pos (w2.2 (by omega))]
        refine d_start [(b2, .cells [.int .i64 schema, .slice A lp.length c0, .slice A' ls.length c'].toArray 32 (0, 0)), (b8, .cells [.int .i64 cl, .int .i64 seq, .int .i64 15, .bool false, .string ByteArray.empty, .int .i64 0].toArray 40 (0, 0))] (by kernel_rfl) (by kernel_rfl) (by kernel_rfl) (by intro e he; (simp only [List.mem_cons, List.not_mem_nil, or_false] at he; rcases he with rfl | rfl <;> simp; done)) ?_
        all_goals (apply dtk 0; (case hi => rfl); (case hop => first | (apply r_loadNo; (case hx => rfl); (case h => (repeat (exact mhd _))); (case hd => (repeat (first | with_reducible exact dt_nil | apply dt_here))); (case hn => rfl)) | (apply r_load1; rfl; (apply Cell.own; (case h => (repeat (fail))); rfl)) | (apply r_loadN; rfl; (apply CellsAt.own; (case h => (repeat (fail)))); rfl)); (case hq => kernel_rfl))
        all_goals (apply dtk 1; (case hi => rfl); (case hop => first | (apply r_loadNo; (case hx => rfl); (case h => (repeat (first | exact mhd _ | apply mtl))); (case hd => (repeat (first | with_reducible exact dt_nil | apply dt_here))); (case hn => rfl)) | (apply r_load1; rfl; (apply Cell.own; (case h => (repeat (fail))); rfl)) | (apply r_loadN; rfl; (apply CellsAt.own; (case h => (repeat (fail)))); rfl)); (case hq => kernel_rfl))
        all_goals (apply d_store 2; (case hi => rfl); (case hr => kernel_rfl); (case hL => infer_instance); (case hp => rfl); (case hx => rfl); (case hc => rfl); (case hsz => rfl); (case h1 => rfl); (case hb => (repeat (first | exact mhd _ | apply mtl))); (case hfit => exact nle rfl); (case hov => ((repeat (first | with_reducible exact ov_nil | apply ov_cons)); done)); (case hu => repeat (first | exact Upd.here _ _ | apply Upd.there)); (case hν' => intro e he; (simp only [List.mem_cons, List.not_mem_nil, or_false] at he; rcases he with rfl | rfl <;> simp; done)))
        all_goals (apply d_store 3; (case hi => rfl); (case hr => kernel_rfl); (case hL => infer_instance); (case hp => rfl); (case hx => rfl); (case hc => rfl); (case hsz => rfl); (case h1 => rfl); (case hb => (repeat (first | exact mhd _ | apply mtl))); (case hfit => exact nle rfl); (case hov => ((repeat (first | with_reducible exact ov_nil | apply ov_cons)); done)); (case hu => repeat (first | exact Upd.here _ _ | apply Upd.there)); (case hν' => intro e he; (simp only [List.mem_cons, List.not_mem_nil, or_false] at he; rcases he with rfl | rfl <;> simp; done)))
        all_goals (apply d_done; (case hr => kernel_rfl))
        repeat' (fail)
        refine v_retM [] (outsM_cc (sz0 := 3) (vs0 := [.int .i64 schema, .slice A lp.length c0, .slice A' ls.length c']) (e0 := 32) (sz1 := 6) (vs1 := [.int .i64 cl, .int .i64 seq, .int .i64 15, .bool false, .string ByteArray.empty, .int .i64 0]) (e1 := 40) rfl rfl (by repeat (first | exact mhd _ | apply mtl)) rfl rfl (by repeat (first | exact mhd _ | apply mtl)) rfl) (List.nil_sublist _) ⟨GH.le_refl _, rfl, _, rfl, hs⟩
      · rw [if_neg (fun h => by have := w1.1 h; omega), if_neg (fun h => by have := w2.1 h; omega), if_neg hh]
        refine d_start [(b2, .cells [.int .i64 schema, .slice A lp.length c0, .slice A' ls.length c'].toArray 32 (0, 0)), (b8, .cells [.int .i64 cl, .int .i64 seq, .int .i64 14, .bool false, .string ByteArray.empty, .int .i64 0].toArray 40 (0, 0))] (by kernel_rfl) (by kernel_rfl) (by kernel_rfl) (by intro e he; (simp only [List.mem_cons, List.not_mem_nil, or_false] at he; rcases he with rfl | rfl <;> simp; done)) ?_
        all_goals (apply dtk 0; (case hi => rfl); (case hop => first | (apply r_loadNo; (case hx => rfl); (case h => (repeat (exact mhd _))); (case hd => (repeat (first | with_reducible exact dt_nil | apply dt_here))); (case hn => rfl)) | (apply r_load1; rfl; (apply Cell.own; (case h => (repeat (fail))); rfl)) | (apply r_loadN; rfl; (apply CellsAt.own; (case h => (repeat (fail)))); rfl)); (case hq => kernel_rfl))
        all_goals (apply dtk 1; (case hi => rfl); (case hop => first | (apply r_loadNo; (case hx => rfl); (case h => (repeat (first | exact mhd _ | apply mtl))); (case hd => (repeat (first | with_reducible exact dt_nil | apply dt_here))); (case hn => rfl)) | (apply r_load1; rfl; (apply Cell.own; (case h => (repeat (fail))); rfl)) | (apply r_loadN; rfl; (apply CellsAt.own; (case h => (repeat (fail)))); rfl)); (case hq => kernel_rfl))
        all_goals (apply d_store 2; (case hi => rfl); (case hr => kernel_rfl); (case hL => infer_instance); (case hp => rfl); (case hx => rfl); (case hc => rfl); (case hsz => rfl); (case h1 => rfl); (case hb => (repeat (first | exact mhd _ | apply mtl))); (case hfit => exact nle rfl); (case hov => ((repeat (first | with_reducible exact ov_nil | apply ov_cons)); done)); (case hu => repeat (first | exact Upd.here _ _ | apply Upd.there)); (case hν' => intro e he; (simp only [List.mem_cons, List.not_mem_nil, or_false] at he; rcases he with rfl | rfl <;> simp; done)))
        all_goals (apply d_store 3; (case hi => rfl); (case hr => kernel_rfl); (case hL => infer_instance); (case hp => rfl); (case hx => rfl); (case hc => rfl); (case hsz => rfl); (case h1 => rfl); (case hb => (repeat (first | exact mhd _ | apply mtl))); (case hfit => exact nle rfl); (case hov => ((repeat (first | with_reducible exact ov_nil | apply ov_cons)); done)); (case hu => repeat (first | exact Upd.here _ _ | apply Upd.there)); (case hν' => intro e he; (simp only [List.mem_cons, List.not_mem_nil, or_false] at he; rcases he with rfl | rfl <;> simp; done)))
        all_goals (apply d_done; (case hr => kernel_rfl))
        repeat' (fail)
        refine v_retM [] (outsM_cc (sz0 := 3) (vs0 := [.int .i64 schema, .slice A lp.length c0, .slice A' ls.length c']) (e0 := 32) (sz1 := 6) (vs1 := [.int .i64 cl, .int .i64 seq, .int .i64 14, .bool false, .string ByteArray.empty, .int .i64 0]) (e1 := 40) rfl rfl (by repeat (first | exact mhd _ | apply mtl)) rfl rfl (by repeat (first | exact mhd _ | apply mtl)) rfl) (List.nil_sublist _) ⟨GH.le_refl _, rfl, _, rfl, hs⟩
      · rw [if_neg (fun h => by have := w1.1 h; omega), if_neg (fun h => by have := w2.1 h; omega), if_neg hh]
        refine d_start [(b2, .cells [.int .i64 schema, .slice A lp.length c0, .slice A' ls.length c'].toArray 32 (0, 0)), (b8, .cells [.int .i64 cl, .int .i64 seq, .int .i64 14, .bool false, .string ByteArray.empty, .int .i64 0].toArray 40 (0, 0))] (by kernel_rfl) (by kernel_rfl) (by kernel_rfl) (by intro e he; (simp only [List.mem_cons, List.not_mem_nil, or_false] at he; rcases he with rfl | rfl <;> simp; done)) ?_
        all_goals (apply dtk 0; (case hi => rfl); (case hop => first | (apply r_loadNo; (case hx => rfl); (case h => (repeat (exact mhd _))); (case hd => (repeat (first | with_reducible exact dt_nil | apply dt_here))); (case hn => rfl)) | (apply r_load1; rfl; (apply Cell.own; (case h => (repeat (fail))); rfl)) | (apply r_loadN; rfl; (apply CellsAt.own; (case h => (repeat (fail)))); rfl)); (case hq => kernel_rfl))
        all_goals (apply dtk 1; (case hi => rfl); (case hop => first | (apply r_loadNo; (case hx => rfl); (case h => (repeat (first | exact mhd _ | apply mtl))); (case hd => (repeat (first | with_reducible exact dt_nil | apply dt_here))); (case hn => rfl)) | (apply r_load1; rfl; (apply Cell.own; (case h => (repeat (fail))); rfl)) | (apply r_loadN; rfl; (apply CellsAt.own; (case h => (repeat (fail)))); rfl)); (case hq => kernel_rfl))
        all_goals (apply d_store 2; (case hi => rfl); (case hr => kernel_rfl); (case hL => infer_instance); (case hp => rfl); (case hx => rfl); (case hc => rfl); (case hsz => rfl); (case h1 => rfl); (case hb => (repeat (first | exact mhd _ | apply mtl))); (case hfit => exact nle rfl); (case hov => ((repeat (first | with_reducible exact ov_nil | apply ov_cons)); done)); (case hu => repeat (first | exact Upd.here _ _ | apply Upd.there)); (case hν' => intro e he; (simp only [List.mem_cons, List.not_mem_nil, or_false] at he; rcases he with rfl | rfl <;> simp; done)))
        all_goals (apply d_store 3; (case hi => rfl); (case hr => kernel_rfl); (case hL => infer_instance); (case hp => rfl); (case hx => rfl); (case hc => rfl); (case hsz => rfl); (case h1 => rfl); (case hb => (repeat (first | exact mhd _ | apply mtl))); (case hfit => exact nle rfl); (case hov => ((repeat (first | with_reducible exact ov_nil | apply ov_cons)); done)); (case hu => repeat (first | exact Upd.here _ _ | apply Upd.there)); (case hν' => intro e he; (simp only [List.mem_cons, List.not_mem_nil, or_false] at he; rcases he with rfl | rfl <;> simp; done)))
        all_goals (apply d_done; (case hr => kernel_rfl))
        repeat' (fail)
        refine v_retM [] (outsM_cc (sz0 := 3) (vs0 := [.int .i64 schema, .slice A lp.length c0, .slice A' ls.length c']) (e0 := 32) (sz1 := 6) (vs1 := [.int .i64 cl, .int .i64 seq, .int .i64 14, .bool false, .string ByteArray.empty, .int .i64 0]) (e1 := 40) rfl rfl (by repeat (first | exact mhd _ | apply mtl)) rfl rfl (by repeat (first | exact mhd _ | apply mtl)) rfl) (List.nil_sublist _) ⟨GH.le_refl _, rfl, _, rfl, hs⟩
  · rw [decide_eq_false ho] at qo
    rw [if_neg ho]
    repeat' (first | (apply v_box (d := 2) (zs := [.int .i64 schema, .slice A lp.length c0, .slice A' ls.length c']); (case hx => rfl); (case hz => rfl); (case hd => rfl); intro b2) | (apply v_box (d := 3) (zs := Cm.cells ⟨kind, cl, seq, key, val, old, node⟩); (case hx => rfl); (case hz => rfl); (case hd => rfl); intro b3) | (apply v_alloc (d := 4); (case hz => rfl); (case hd => rfl); intro b4) | (apply v_alloc (d := 5); (case hz => rfl); (case hd => rfl); intro b5) | (apply v_read; (case hop => (apply r_loadNo; (case hx => rfl); (case h => repeat (first | exact mhd _ | apply mtl)); (case hd => rfl); (case hn => rfl))); (case hd => rfl)) | apply v_seq | apply v_region | apply v_nil | apply v_skip | (apply v_take; (case hg => rfl)) | (apply v_pass; (case hg => rfl); (case hn => rfl); (case hd => rfl)) | (apply v_pure; (case hop => first | (apply p_move <;> rfl) | (apply p_eq <;> rfl) | (apply p_pickT <;> rfl) | (apply p_pickF <;> rfl) | (apply p_not <;> rfl) | (apply p_fieldAddrB <;> rfl) | (apply p_build; (case hz => rfl); (case hv => (simp only [List.map_cons, List.map_nil]; repeat (with_reducible exact evs_nil))); (case hb => (apply bldL; repeat (exact bld_nil)))) | fail); (case hd => rfl)) | (apply v_condT; (case hc => rfl)) | (apply v_condF; (case hc => rfl)) | (apply v_cond; (case hc => rfl); all_goals (intro h; (try simp only [reduceCtorEq, zzz] at h))) | (apply v_guardB; (case h1 => rfl); (case h2 => rfl); all_goals (intro h; (try simp only [reduceCtorEq, zzz] at h))) | (apply v_callJ (hs := qo); (case ha => rfl); (case hd => rfl)) | (apply v_read; (case hop => (apply r_load1; rfl; (apply Cell.own; (case h => (repeat (first | exact mhd _ | apply mtl))); rfl))); (case hd => rfl)) | (apply v_store; (case hp => rfl); (case hx => rfl); (case hc => rfl); (case hsz => rfl); (case h1 => rfl); (case hb => (repeat (first | exact mhd _ | apply mtl))); (case hfit => exact nle rfl); (case hov => (first | ((repeat (first | with_reducible exact ov_nil | apply ov_cons)); done) | rfl)); (case hu => repeat (first | exact Upd.here _ _ | apply Upd.there))) | fail)
    · rw [if_pos ⟨by assumption, by assumption⟩]
      refine v_call (μ1 := []) rfl qr (List.Perm.refl _) rfl ?_
      rintro v3 G3 _ hle3 ⟨-, rfl, hs3⟩
      rw [hup] at hs3
      obtain ⟨A3, c3, A3', c3', rfl, -, -⟩ := id hs3
      repeat' (first | apply v_nil | (apply v_pure; (case hop => (apply p_build; (case hz => rfl); (case hv => (simp only [List.map_cons, List.map_nil]; repeat (with_reducible exact evs_nil))); (case hb => (apply bldL; repeat (exact bld_nil))))); (case hd => rfl)) | (apply v_store; (case hp => rfl); (case hx => rfl); (case hc => rfl); (case hsz => rfl); (case h1 => rfl); (case hb => (repeat (first | exact mhd _ | apply mtl))); (case hfit => exact nle rfl); (case hov => ((repeat (first | with_reducible exact ov_nil | apply ov_cons)); done)); (case hu => repeat (first | exact Upd.here _ _ | apply Upd.there))) | fail)
      refine v_retM [] (outsM_cc (sz0 := 3) (vs0 := [.int .i64 2, .slice A3 (upS ⟨schema, lp, ls⟩).pairs.length c3, .slice A3' (upS ⟨schema, lp, ls⟩).sess.length c3']) (e0 := 32) (sz1 := 6) (vs1 := zA.cells) (e1 := 40) rfl rfl (by repeat (first | exact mhd _ | apply mtl)) rfl rfl (by repeat (exact mhd _)) rfl) (List.nil_sublist _) ⟨hle3, rfl, _, rfl, hs3⟩
    all_goals
      (rw [if_neg (fun h => by have := h.1; have := h.2; omega)]
       refine v_retM [] (outsM_cc (sz0 := 3) (vs0 := [.int .i64 schema, .slice A lp.length c0, .slice A' ls.length c']) (e0 := 32) (sz1 := 6) (vs1 := zA.cells) (e1 := 40) rfl rfl (by repeat (first | exact mhd _ | apply mtl)) rfl rfl (by repeat (exact mhd _)) rfl) (List.nil_sublist _) ⟨GH.le_refl _, rfl, _, rfl, hs⟩)
section
attribute [local semireducible] Vc DVc Con PureOp ReadOp MoveOp
theorem d_fork3 {P : Program} {fn : Func} {n : Nat} {B : Base} {Φ : Value → GH → OH → Prop} {k : List It} {σ : Env} {G G0 : GH} {μ : OH} {all : Array Oper} {m : Nat} {listed : Array Bool} {ν : OH} (i j l : Nat) (hr : Region.ready .any all listed = [i, j, l]) (h1 : DX P fn n B Φ all G0 ν m listed k σ G μ i) (h2 : DX P fn n B Φ all G0 ν m listed k σ G μ j) (h3 : DX P fn n B Φ all G0 ν m listed k σ G μ l) : DVc P fn n B Φ all G0 ν (m + 1) listed k σ G μ := by
  intro hsel hle hν w hw a ha
  refine wpAnyH_all hr (by simp) fun x hx => ?_
  simp only [List.mem_cons, List.mem_singleton, List.not_mem_nil, or_false] at hx
  obtain rfl | rfl | rfl := hx
  · exact h1 hsel hle hν w hw a ha
  · exact h2 hsel hle hν w hw a ha
  · exact h3 hsel hle hν w hw a ha
end
end Go.Proofs.YtmdeeokejdkceaaGreatDoor
/-
  app's law (layer 28): awake, in plain Lean.
-/
set_option linter.unusedSimpArgs false
set_option linter.unusedVariables false
namespace Go.Proofs.YtmdeeokejdkceaaGreatDoor
open Go.Vx Go.ChangeShapes Go.WideShapes Go.ChangeAt Go.RowKit
abbrev emp : St := ⟨1, [], []⟩
abbrev mA : Cm := ⟨6, 0, 0, ByteArray.empty, ByteArray.empty, ByteArray.empty, 0⟩
theorem sesP_nil : SesP [] := ⟨fun i hi => by simp at hi, fun x hx => by simp at hx⟩
theorem emp_ok : StP emp := stP_iff.2 ⟨sesP_nil, .inl rfl, ⟨by simp, List.Pairwise.nil, fun x hx => by simp at hx⟩, fun _ => rfl⟩
theorem empty_s (G : GH) : Con Tryz.prog 14 #[] G [] (Just (.agg [.int .i64 1, .slice none 0 0, .slice none 0 0].toArray) G) := by
  apply Con.just
  (refine v_enter Tryz.func14 rfl Tryz.ntmps14 rfl ?_; intro B _)
  repeat' (first | (apply v_alloc (d := 0); (case hz => rfl); (case hd => rfl); intro b0) | apply v_seq | apply v_region | apply v_nil | apply v_skip | apply v_block | apply v_blk | (apply v_exit; (case hp => rfl)) | (apply v_take; (case hg => rfl)) | (apply v_pass; (case hg => rfl); (case hn => rfl); (case hd => rfl)) | (apply v_passN; (case hg => rfl); (case hn => rfl); (case hd => rfl)) | (apply v_pure; (case hop => (apply p_build; (case hz => rfl); (case hv => (simp only [List.map_cons, List.map_nil]; repeat (first | with_reducible exact evs_nil | (apply evs_cons; (case h1 => rfl))))); (case hb => (apply bldL; repeat (first | exact bld_nil | (apply bld_cons; (case hpf => rfl); (case hc => rfl); (case hs => rfl); (case hl => rfl); (case ho => (first | ((repeat (first | with_reducible exact ov_nil | apply ov_cons | apply ov_there)); done) | rfl)))))))); (case hd => rfl)) | (apply v_condT; (case hc => rfl)) | (apply v_condF; (case hc => rfl)) | (apply v_cond; (case hc => rfl); all_goals (intro h; (try simp only [reduceCtorEq, zzz] at h); first | done | (exfalso; omega) | (exfalso; exact h (by with_reducible assumption)) | (exfalso; revert h; rw [imp_false]; with_reducible assumption) | skip)) | (apply v_guardB; (case h1 => rfl); (case h2 => rfl); all_goals (intro h; (try simp only [reduceCtorEq, zzz] at h); first | done | (exfalso; omega) | (exfalso; exact h (by with_reducible assumption)) | (exfalso; revert h; rw [imp_false]; with_reducible assumption) | skip)) | (apply v_alloc; (case hz => rfl); (case hd => rfl); intro b) | (apply v_store; (case hp => rfl); (case hx => rfl); (case hc => rfl); (case hsz => rfl); (case h1 => rfl); (case hb => (repeat (first | exact mhd _ | apply mtl | apply List.mem_append_right))); (case hfit => first | exact nle rfl | (simp; omega)); (case hov => (first | ((repeat (first | with_reducible exact ov_nil | apply ov_cons | apply ov_there)); done) | rfl)); (case hu => repeat (first | exact Upd.here _ _ | apply Upd.there | apply Upd.app))) | fail)
  refine v_retM [] (outsM_cell (sz := 3) (vs := [.int .i64 1, .slice none 0 0, .slice none 0 0]) (e := 32) rfl rfl (by (repeat (first | exact mhd _ | apply mtl))) rfl) (List.nil_sublist _) ⟨rfl, rfl⟩
theorem emp_v (G : GH) : StV G emp (.agg [.int .i64 1, .slice none 0 0, .slice none 0 0].toArray) := by
  refine ⟨none, 0, none, 0, rfl, ?_, ?_⟩
  · exact row_of_grow Pr.len (Grow.nil 144 3) (fun b o h => by cases h)
  · exact row_of_grow Ss.len (Grow.nil 146 8) (fun b o h => by cases h)
section
attribute [local semireducible] Vc DVc Con PureOp ReadOp MoveOp
end
end Go.Proofs.YtmdeeokejdkceaaGreatDoor
/-
  conf (layer 11), the first part: what its readers, and the reference's, answer.
-/
set_option linter.unusedSimpArgs false
set_option linter.unusedVariables false
namespace Go.Proofs.YtmdeeokejdkceaaGreatDoor
open Go.Vx Go.ChangeShapes Go.WideShapes Go.ChangeAt Go.RowKit
abbrev Co := Int × List Int
def CoR (G : GH) (x : Co) (cs : List Value) : Prop := ∃ mv, cs = [.int .i64 x.1, mv] ∧ (Lit.int .i64 x.1).wf = true ∧ Sl G 1 (IntR .i64) mv x.2
theorem CoR.le {G G' : GH} (h : GH.le G G') {x : Co} {cs : List Value} (hc : CoR G x cs) : CoR G' x cs := let ⟨mv, h1, h2, h3⟩ := hc; ⟨mv, h1, h2, h3.mono h⟩
abbrev Cos (G : GH) (v : Value) (l : List Co) : Prop := Sl G 2 (CoR G) v l
theorem Cos.le {G G' : GH} (h : GH.le G G') {v : Value} {l : List Co} (hc : Cos G v l) : Cos G' v l := Sl.le hc h fun _ _ => CoR.le h
theorem coOpen {G : GH} {v : Value} {l : List Co} (h : Cos G v l) : ∃ A c, ∃ (mA : Nat → Option Addr) (mc : Nat → Nat), v = .slice A l.length c ∧ l.length ≤ c ∧ c ≤ maxLen ∧ (0 < l.length → A.isSome = true) ∧
    (∀ i (h : i < l.length), CellsG G ((adr A).add (i * 2)) [.int .i64 l[i].1, .slice (mA i) l[i].2.length (mc i)]) ∧ (∀ i (h : i < l.length), GH.cell? G (((adr A).add (i * 2)).add 0) = some (.int .i64 l[i].1)) ∧ (∀ i (h : i < l.length), GH.cell? G (((adr A).add (i * 2)).add 1) = some (.slice (mA i) l[i].2.length (mc i))) ∧
    (∀ i (h : i < l.length), Sl G 1 (IntR .i64) (.slice (mA i) l[i].2.length (mc i)) l[i].2) ∧ (∀ i (h : i < l.length), (Lit.int .i64 l[i].1).wf = true) := by
  obtain ⟨A, c, rfl, h1, h2, h3, h4⟩ := h.open
  have key : ∀ i, ∃ m : Option Addr × Nat, ∀ (h : i < l.length), CellsG G ((adr A).add (i * 2)) [.int .i64 l[i].1, .slice m.1 l[i].2.length m.2] ∧ Sl G 1 (IntR .i64) (.slice m.1 l[i].2.length m.2) l[i].2 ∧ (Lit.int .i64 l[i].1).wf = true := fun i => by
    by_cases hi : i < l.length
    · obtain ⟨cs, _, ⟨mv, rfl, h6, h7⟩, h5⟩ := h4 i _ (List.getElem?_eq_getElem hi)
      obtain ⟨A', c', rfl, _⟩ := h7.openInt
      exact ⟨(A', c'), fun _ => ⟨h5, h7, h6⟩⟩
    · exact ⟨(none, 0), fun h => absurd h hi⟩
  have hk := fun i => Classical.choose_spec (key i)
  exact ⟨A, c, fun i => (Classical.choose (key i)).1, fun i => (Classical.choose (key i)).2, rfl, h1, h2, h3, fun i hi => (hk i hi).1, fun i hi => (hk i hi).1.cell (j := 0) rfl, fun i hi => (hk i hi).1.cell (j := 1) rfl, fun i hi => (hk i hi).2.1, fun i hi => (hk i hi).2.2⟩
def inB (l : List Int) (n : Int) : Bool := decide (n ∈ l)
theorem in_s {G : GH} {l : List Int} {sv : Value} (n : Int) (hs : Sl G 1 (IntR .i64) sv l) : Con Tryz.prog 60 #[sv, .int .i64 n] G [] (Just (.bool (inB l n)) G) := by
  obtain ⟨A, c, rfl, hlc, hcm, hsome, hel, _⟩ := hs.openInt
  simp only [maxLen] at hcm
  (refine v_enter Tryz.func60 rfl Tryz.ntmps60 rfl ?_; intro B _)
  repeat' (first | apply v_seq | apply v_region | apply v_nil | apply v_block | (apply v_pure; (case hop => (apply p_assign <;> rfl)); (case hd => rfl)) | fail)
  refine v_loop [5, 0, 1] (fun us G' μ' => G' = G ∧ μ' = [] ∧ ∃ k, k ≤ l.length ∧ us = [Value.int .i64 (k : Nat), .slice A l.length c, .int .i64 n] ∧ ∀ i (h : i < l.length), i < k → l[i] ≠ n) (fun us => l.length - (headI us).toNat) rfl ⟨rfl, rfl, 0, by omega, rfl, by omega⟩ ?_
  rintro us G' μ' ⟨rfl, rfl, k, hk, rfl, hno⟩
  repeat' (first | apply v_seq | apply v_region | apply v_nil | apply v_skip | apply v_block | apply v_blk | (apply v_exit; (case hp => rfl)) | (apply v_pure; (case hop => first | (apply p_move <;> rfl) | (apply p_eq <;> rfl) | (apply p_lt <;> rfl) | (apply p_assign <;> rfl) | (apply p_lenSlice <;> rfl) | (apply p_add; (case hx => rfl); (case hy => rfl); (case h => omega)) | (apply p_indexAddrS; (case hx => rfl); (case hi => rfl); (case h0 => omega); (case h => omega); (case hA => (apply_assumption; omega))) | fail); (case hd => rfl)) | (apply v_cond; (case hc => rfl); all_goals (intro h; (try simp only [reduceCtorEq, zzz] at h))) | (apply v_read; (case hop => (apply r_load1; rfl; exact Cell.frozen (hel _ (by omega)))); (case hd => rfl)) | fail)
  · refine v_ret [] (outsA1 rfl rfl) (by repeat (exact List.Sublist.refl _)) ?_
    refine ⟨?_, rfl, rfl⟩
    rw [inB, decide_eq_true (by rename_i h; rw [← h]; exact List.getElem_mem _)]
  · refine v_again rfl ⟨rfl, rfl, k + 1, by omega, rfl, fun i h hi => ?_⟩ (by simp [headI]; omega)
    by_cases hik : i = k
    · subst hik; assumption
    · exact hno i h (by omega)
  · refine v_ret [] (outsA1 rfl rfl) (by repeat (exact List.Sublist.refl _)) ?_
    refine ⟨?_, rfl, rfl⟩
    rw [inB, decide_eq_false]
    intro hm
    obtain ⟨i, hi, he⟩ := List.getElem_of_mem hm
    exact hno i hi (by omega) he
def intsB (a b : List Int) : Bool := decide (a = b)
theorem ints_s {G : GH} {a b : List Int} {av bv : Value} (ha : Sl G 1 (IntR .i64) av a) (hb : Sl G 1 (IntR .i64) bv b) : Con Tryz.prog 26 #[av, bv] G [] (Just (.bool (intsB a b)) G) := by
  obtain ⟨A, c, rfl, hlc, hcm, hsome, hel, _⟩ := ha.openInt
  obtain ⟨A', c', rfl, hlc', hcm', hsome', hel', _⟩ := hb.openInt
  simp only [maxLen] at hcm hcm'
  (refine v_enter Tryz.func26 rfl Tryz.ntmps26 rfl ?_; intro B _)
  repeat' (first | apply v_seq | apply v_region | apply v_nil | apply v_skip | apply v_block | (apply v_pure; (case hop => first | (apply p_move <;> rfl) | (apply p_ne <;> rfl) | (apply p_assign <;> rfl) | (apply p_lenSlice <;> rfl) | fail); (case hd => rfl)) | (apply v_cond; (case hc => rfl); all_goals (intro h; (try simp only [reduceCtorEq, zzz] at h))) | fail)
  · refine v_ret [] (outsA1 rfl rfl) (by repeat (exact List.Sublist.refl _)) ?_
    refine ⟨?_, rfl, rfl⟩
    rw [intsB, decide_eq_false]
    intro e
    subst e
    omega
  have hab : a.length = b.length := by omega
  refine v_loop [5, 0, 1] (fun us G' μ' => G' = G ∧ μ' = [] ∧ ∃ k, k ≤ a.length ∧ us = [Value.int .i64 (k : Nat), .slice A a.length c, .slice A' b.length c'] ∧ ∀ i (h : i < a.length) (h' : i < b.length), i < k → a[i] = b[i]) (fun us => a.length - (headI us).toNat) rfl ⟨rfl, rfl, 0, by omega, rfl, by omega⟩ ?_
  rintro us G' μ' ⟨rfl, rfl, k, hk, rfl, hno⟩
  repeat' (first | apply v_seq | apply v_region | apply v_nil | apply v_skip | apply v_block | (apply v_exit; (case hp => rfl)) | (apply v_pure; (case hop => first | (apply p_move <;> rfl) | (apply p_lt <;> rfl) | (apply p_assign <;> rfl) | (apply p_lenSlice <;> rfl) | fail); (case hd => rfl)) | (apply v_cond; (case hc => rfl); all_goals (intro h; (try simp only [reduceCtorEq, zzz] at h))) | fail)
  · refine d_start [] (by kernel_rfl) (by kernel_rfl) (by kernel_rfl) (by intro e he; exact he) ?_
    all_goals (apply dtk 0; (case hi => rfl); (case hop => (apply prd; apply p_move <;> rfl)); (case hq => kernel_rfl))
    all_goals (apply dtk 1; (case hi => rfl); (case hop => (apply prd; apply p_move <;> rfl)); (case hq => kernel_rfl))
    all_goals (apply dtk 2; (case hi => rfl); (case hop => (apply prd; apply p_indexAddrS; (case hx => rfl); (case hi => rfl); (case h0 => omega); (case h => omega); (case hA => (apply_assumption; omega)))); (case hq => kernel_rfl))
    all_goals (apply dtk 3; (case hi => rfl); (case hop => ((apply r_load1; rfl; exact Cell.frozen (hel _ (by omega))))); (case hq => kernel_rfl))
    all_goals (apply dtk 4; (case hi => rfl); (case hop => (apply prd; apply p_move <;> rfl)); (case hq => kernel_rfl))
    all_goals (apply dtk 5; (case hi => rfl); (case hop => (apply prd; apply p_move <;> rfl)); (case hq => kernel_rfl))
    all_goals (apply dtk 6; (case hi => rfl); (case hop => (apply prd; apply p_indexAddrS; (case hx => rfl); (case hi => rfl); (case h0 => omega); (case h => omega); (case hA => (apply_assumption; omega)))); (case hq => kernel_rfl))
    all_goals (apply dtk 7; (case hi => rfl); (case hop => ((apply r_load1; rfl; exact Cell.frozen (hel' _ (by omega))))); (case hq => kernel_rfl))
    all_goals (apply dtk 8; (case hi => rfl); (case hop => (apply prd; apply p_ne <;> rfl)); (case hq => kernel_rfl))
    all_goals (apply d_done; (case hr => kernel_rfl))
    repeat' (first | apply v_seq | apply v_region | apply v_nil | apply v_skip | apply v_blk | (apply v_pure; (case hop => first | (apply p_move <;> rfl) | (apply p_assign <;> rfl) | (apply p_add; (case hx => rfl); (case hy => rfl); (case h => omega)) | fail); (case hd => rfl)) | (apply v_cond; (case hc => rfl); all_goals (intro h; (try simp only [reduceCtorEq, zzz] at h))) | fail)
    · refine v_ret [] (outsA1 rfl rfl) (by repeat (exact List.Sublist.refl _)) ?_
      refine ⟨?_, rfl, rfl⟩
      rw [intsB, decide_eq_false]
      intro e
      subst e
      contradiction
    · refine v_again rfl ⟨rfl, rfl, k + 1, by omega, rfl, fun i h h' hi => ?_⟩ (by simp [headI]; omega)
      by_cases hik : i = k
      · subst hik; assumption
      · exact hno i h h' (by omega)
  · refine v_ret [] (outsA1 rfl rfl) (by repeat (exact List.Sublist.refl _)) ?_
    refine ⟨?_, rfl, rfl⟩
    rw [intsB, decide_eq_true]
    exact List.ext_getElem hab fun i h h' => hno i h h' (by omega)
def sameB (a b : List Co) : Bool := decide (a = b)
theorem same_s {G : GH} {a b : List Co} {av bv : Value} (ha : Cos G av a) (hb : Cos G bv b) : Con Tryz.prog 87 #[av, bv] G [] (Just (.bool (sameB a b)) G) := by
  obtain ⟨A, c, mA, mc, rfl, hlc, hcm, hsome, hcp, hc0, hc1, hmv, hwf⟩ := coOpen ha
  obtain ⟨A', c', mA', mc', rfl, hlc', hcm', hsome', hcp', hc0', hc1', hmv', hwf'⟩ := coOpen hb
  simp only [maxLen] at hcm hcm'
  (refine v_enter Tryz.func87 rfl Tryz.ntmps87 rfl ?_; intro B _)
  repeat' (first | apply v_seq | apply v_region | apply v_nil | apply v_skip | apply v_block | (apply v_pure; (case hop => first | (apply p_move <;> rfl) | (apply p_ne <;> rfl) | (apply p_assign <;> rfl) | (apply p_lenSlice <;> rfl) | fail); (case hd => rfl)) | (apply v_cond; (case hc => rfl); all_goals (intro h; (try simp only [reduceCtorEq, zzz] at h))) | fail)
  · refine v_ret [] (outsA1 rfl rfl) (by repeat (exact List.Sublist.refl _)) ?_
    refine ⟨?_, rfl, rfl⟩
    rw [sameB, decide_eq_false]
    intro e
    subst e
    omega
  have hab : a.length = b.length := by omega
  refine v_loop [5, 0, 1] (fun us G' μ' => G' = G ∧ μ' = [] ∧ ∃ k, k ≤ a.length ∧ us = [Value.int .i64 (k : Nat), .slice A a.length c, .slice A' b.length c'] ∧ ∀ i (h : i < a.length) (h' : i < b.length), i < k → a[i] = b[i]) (fun us => a.length - (headI us).toNat) rfl ⟨rfl, rfl, 0, by omega, rfl, by omega⟩ ?_
  rintro us G' μ' ⟨rfl, rfl, k, hk, rfl, hno⟩
  repeat' (first | apply v_seq | apply v_region | apply v_nil | apply v_skip | apply v_block | (apply v_exit; (case hp => rfl)) | (apply v_pure; (case hop => first | (apply p_move <;> rfl) | (apply p_lt <;> rfl) | (apply p_assign <;> rfl) | (apply p_lenSlice <;> rfl) | fail); (case hd => rfl)) | (apply v_cond; (case hc => rfl); all_goals (intro h; (try simp only [reduceCtorEq, zzz] at h))) | fail)
  · have hlt : k < a.length := by omega
    have hlt' : k < b.length := by omega
    refine d_start [] (by kernel_rfl) (by kernel_rfl) (by kernel_rfl) (by intro e he; exact he) ?_
    all_goals (apply dtk 0; (case hi => rfl); (case hop => (apply prd; apply p_move <;> rfl)); (case hq => kernel_rfl))
    all_goals (apply dtk 1; (case hi => rfl); (case hop => (apply prd; apply p_move <;> rfl)); (case hq => kernel_rfl))
    all_goals (apply dtk 2; (case hi => rfl); (case hop => (apply prd; apply p_indexAddrS; (case hx => rfl); (case hi => rfl); (case h0 => omega); (case h => omega); (case hA => (apply_assumption; omega)))); (case hq => kernel_rfl))
    all_goals (apply dtk 3; (case hi => rfl); (case hop => (apply prd; apply p_fieldAddr <;> rfl)); (case hq => kernel_rfl))
    all_goals (apply dtk 4; (case hi => rfl); (case hop => ((apply r_load1; rfl; exact Cell.frozen (hc0 _ (by omega))))); (case hq => kernel_rfl))
    all_goals (apply dtk 5; (case hi => rfl); (case hop => (apply prd; apply p_move <;> rfl)); (case hq => kernel_rfl))
    all_goals (apply dtk 6; (case hi => rfl); (case hop => (apply prd; apply p_move <;> rfl)); (case hq => kernel_rfl))
    all_goals (apply dtk 7; (case hi => rfl); (case hop => (apply prd; apply p_indexAddrS; (case hx => rfl); (case hi => rfl); (case h0 => omega); (case h => omega); (case hA => (apply_assumption; omega)))); (case hq => kernel_rfl))
    all_goals (apply dtk 8; (case hi => rfl); (case hop => (apply prd; apply p_fieldAddr <;> rfl)); (case hq => kernel_rfl))
    all_goals (apply dtk 9; (case hi => rfl); (case hop => ((apply r_load1; rfl; exact Cell.frozen (hc0' _ (by omega))))); (case hq => kernel_rfl))
    all_goals (apply dtk 10; (case hi => rfl); (case hop => (apply prd; apply p_ne <;> rfl)); (case hq => kernel_rfl))
    all_goals (apply dtk 11; (case hi => rfl); (case hop => (apply prd; apply p_move <;> rfl)); (case hq => kernel_rfl))
    all_goals (try (apply d_guardB 12; (case hi => rfl); (case hgd => rfl); (case h1 => rfl); (case h2 => rfl); all_goals (intro h; (try simp only [reduceCtorEq, zzz] at h))))
    all_goals (first | (apply dpa 12; (case hi => rfl); (case hg => rfl); (case hn => rfl); (case hq => kernel_rfl)) | (apply dtg 12; (case hi => rfl); (case hg => rfl); (case hop => (apply prd; apply p_move <;> rfl)); (case hq => kernel_rfl)) | fail)
    all_goals (try (apply d_guardB 13; (case hi => rfl); (case hgd => rfl); (case h1 => rfl); (case h2 => rfl); all_goals (intro h; (try simp only [reduceCtorEq, zzz] at h))))
    all_goals (first | (apply dpa 13; (case hi => rfl); (case hg => rfl); (case hn => rfl); (case hq => kernel_rfl)) | (apply dtg 13; (case hi => rfl); (case hg => rfl); (case hop => (apply prd; apply p_move <;> rfl)); (case hq => kernel_rfl)) | fail)
    all_goals (try (apply d_guardB 14; (case hi => rfl); (case hgd => rfl); (case h1 => rfl); (case h2 => rfl); all_goals (intro h; (try simp only [reduceCtorEq, zzz] at h))))
    all_goals (first | (apply dpa 14; (case hi => rfl); (case hg => rfl); (case hn => rfl); (case hq => kernel_rfl)) | (apply dtg 14; (case hi => rfl); (case hg => rfl); (case hop => (apply prd; apply p_indexAddrS; (case hx => rfl); (case hi => rfl); (case h0 => omega); (case h => omega); (case hA => (apply_assumption; omega)))); (case hq => kernel_rfl)) | fail)
    all_goals (try (apply d_guardB 15; (case hi => rfl); (case hgd => rfl); (case h1 => rfl); (case h2 => rfl); all_goals (intro h; (try simp only [reduceCtorEq, zzz] at h))))
    all_goals (first | (apply dpa 15; (case hi => rfl); (case hg => rfl); (case hn => rfl); (case hq => kernel_rfl)) | (apply dtg 15; (case hi => rfl); (case hg => rfl); (case hop => (apply prd; apply p_fieldAddr <;> rfl)); (case hq => kernel_rfl)) | fail)
    all_goals (try (apply d_guardB 16; (case hi => rfl); (case hgd => rfl); (case h1 => rfl); (case h2 => rfl); all_goals (intro h; (try simp only [reduceCtorEq, zzz] at h))))
    all_goals (first | (apply dpa 16; (case hi => rfl); (case hg => rfl); (case hn => rfl); (case hq => kernel_rfl)) | (apply dtg 16; (case hi => rfl); (case hg => rfl); (case hop => ((apply r_load1; rfl; exact Cell.frozen (hc1 _ (by omega))))); (case hq => kernel_rfl)) | fail)
    all_goals (try (apply d_guardB 17; (case hi => rfl); (case hgd => rfl); (case h1 => rfl); (case h2 => rfl); all_goals (intro h; (try simp only [reduceCtorEq, zzz] at h))))
    all_goals (first | (apply dpa 17; (case hi => rfl); (case hg => rfl); (case hn => rfl); (case hq => kernel_rfl)) | (apply dtg 17; (case hi => rfl); (case hg => rfl); (case hop => (apply prd; apply p_move <;> rfl)); (case hq => kernel_rfl)) | fail)
    all_goals (try (apply d_guardB 18; (case hi => rfl); (case hgd => rfl); (case h1 => rfl); (case h2 => rfl); all_goals (intro h; (try simp only [reduceCtorEq, zzz] at h))))
    all_goals (first | (apply dpa 18; (case hi => rfl); (case hg => rfl); (case hn => rfl); (case hq => kernel_rfl)) | (apply dtg 18; (case hi => rfl); (case hg => rfl); (case hop => (apply prd; apply p_move <;> rfl)); (case hq => kernel_rfl)) | fail)
    all_goals (try (apply d_guardB 19; (case hi => rfl); (case hgd => rfl); (case h1 => rfl); (case h2 => rfl); all_goals (intro h; (try simp only [reduceCtorEq, zzz] at h))))
    all_goals (first | (apply dpa 19; (case hi => rfl); (case hg => rfl); (case hn => rfl); (case hq => kernel_rfl)) | (apply dtg 19; (case hi => rfl); (case hg => rfl); (case hop => (apply prd; apply p_indexAddrS; (case hx => rfl); (case hi => rfl); (case h0 => omega); (case h => omega); (case hA => (apply_assumption; omega)))); (case hq => kernel_rfl)) | fail)
    all_goals (try (apply d_guardB 20; (case hi => rfl); (case hgd => rfl); (case h1 => rfl); (case h2 => rfl); all_goals (intro h; (try simp only [reduceCtorEq, zzz] at h))))
    all_goals (first | (apply dpa 20; (case hi => rfl); (case hg => rfl); (case hn => rfl); (case hq => kernel_rfl)) | (apply dtg 20; (case hi => rfl); (case hg => rfl); (case hop => (apply prd; apply p_fieldAddr <;> rfl)); (case hq => kernel_rfl)) | fail)
    all_goals (try (apply d_guardB 21; (case hi => rfl); (case hgd => rfl); (case h1 => rfl); (case h2 => rfl); all_goals (intro h; (try simp only [reduceCtorEq, zzz] at h))))
    all_goals (first | (apply dpa 21; (case hi => rfl); (case hg => rfl); (case hn => rfl); (case hq => kernel_rfl)) | (apply dtg 21; (case hi => rfl); (case hg => rfl); (case hop => ((apply r_load1; rfl; exact Cell.frozen (hc1' _ (by omega))))); (case hq => kernel_rfl)) | fail)
    all_goals (try (apply d_guardB 22; (case hi => rfl); (case hgd => rfl); (case h1 => rfl); (case h2 => rfl); all_goals (intro h; (try simp only [reduceCtorEq, zzz] at h))))
    all_goals (first | (apply dpa 22; (case hi => rfl); (case hg => rfl); (case hn => rfl); (case hq => kernel_rfl)) | (apply d_callJG 22 (hs := (ints_s (hmv _ hlt) (hmv' _ hlt'))); (case hi => rfl); (case hg => rfl); (case hr => kernel_rfl); (case ha => rfl); (case hd => rfl)) | fail)
    all_goals (try (apply d_guardB 23; (case hi => rfl); (case hgd => rfl); (case h1 => rfl); (case h2 => rfl); all_goals (intro h; (try simp only [reduceCtorEq, zzz] at h))))
    all_goals (first | (apply dpa 23; (case hi => rfl); (case hg => rfl); (case hn => rfl); (case hq => kernel_rfl)) | (apply dtg 23; (case hi => rfl); (case hg => rfl); (case hop => (apply prd; apply p_not <;> rfl)); (case hq => kernel_rfl)) | fail)
    all_goals (apply dtk 24; (case hi => rfl); (case hop => first | (apply prd; apply p_pickT <;> rfl) | (apply prd; apply p_pickF <;> rfl) | fail); (case hq => kernel_rfl))
    all_goals (apply d_done; (case hr => kernel_rfl))
    repeat' (first | apply v_seq | apply v_region | apply v_nil | apply v_skip | apply v_blk | (apply v_pure; (case hop => first | (apply p_move <;> rfl) | (apply p_assign <;> rfl) | (apply p_add; (case hx => rfl); (case hy => rfl); (case h => omega)) | fail); (case hd => rfl)) | (apply v_condT; (case hc => rfl)) | (apply v_cond; (case hc => rfl); all_goals (intro h; (try simp only [reduceCtorEq, zzz] at h))) | fail)
    · refine v_ret [] (outsA1 rfl rfl) (by repeat (exact List.Sublist.refl _)) ?_
      refine ⟨?_, rfl, rfl⟩
      rw [sameB, decide_eq_false]
      intro e
      subst e
      contradiction
    · refine v_ret [] (outsA1 rfl rfl) (by repeat (exact List.Sublist.refl _)) ?_
      refine ⟨?_, rfl, rfl⟩
      rw [sameB, decide_eq_false]
      intro e
      subst e
      rename_i h
      simp [intsB] at h
    · refine v_again rfl ⟨rfl, rfl, k + 1, by omega, rfl, fun i h h' hi => ?_⟩ (by simp [headI]; omega)
      by_cases hik : i = k
      · subst hik
        simp only [Int.toNat_natCast, intsB, decide_eq_true_eq] at *
        exact Prod.ext (by assumption) (by assumption)
      · exact hno i h h' (by omega)
  · refine v_ret [] (outsA1 rfl rfl) (by repeat (exact List.Sublist.refl _)) ?_
    refine ⟨?_, rfl, rfl⟩
    rw [sameB, decide_eq_true]
    exact List.ext_getElem hab fun i h h' => hno i h h' (by omega)
def MemOK (m : List Int) : Prop := 0 < m.length ∧ ∀ k (h : k < m.length), 1 ≤ m[k] ∧ m[k] ≤ 9 ∧ (0 < k → m[k - 1] < m[k])
def ConfOK (l : List Co) : Prop := (∃ h : 0 < l.length, l[0].1 = 1) ∧ ∀ i (h : i < l.length), MemOK l[i].2 ∧ l[i].1 ≤ 4294967296 ∧ (0 < i → l[i - 1].1 < l[i].1)
noncomputable instance (m : List Int) : Decidable (MemOK m) := Classical.propDecidable _
noncomputable instance (l : List Co) : Decidable (ConfOK l) := Classical.propDecidable _
theorem members_s {G : GH} {l : List Int} {sv : Value} (hs : Sl G 1 (IntR .i64) sv l) : Con Tryz.prog 151 #[sv] G [] (Just (.bool (decide (MemOK l))) G) := by
  obtain ⟨A, c, rfl, hlc, hcm, hsome, hel, _⟩ := hs.openInt
  simp only [maxLen] at hcm
  (refine v_enter Tryz.func151 rfl Tryz.ntmps151 rfl ?_; intro B _)
  repeat' (first | apply v_seq | apply v_region | apply v_nil | apply v_block | (apply v_pure; (case hop => first | (apply p_move <;> rfl) | (apply p_assign <;> rfl) | (apply p_lenSlice <;> rfl) | fail); (case hd => rfl)) | fail)
  refine v_loop [7, 6, 5, 0] (fun us G' μ' => G' = G ∧ μ' = [] ∧ ∃ k, k ≤ l.length ∧ us = [Value.int .i64 (k : Nat), .int .i64 l.length, .slice A l.length c, .slice A l.length c] ∧ ∀ i (h : i < l.length), i < k → 1 ≤ l[i] ∧ l[i] ≤ 9 ∧ (0 < i → l[i - 1] < l[i])) (fun us => l.length - (headI us).toNat) rfl ⟨rfl, rfl, 0, by omega, rfl, by omega⟩ ?_
  rintro us G' μ' ⟨rfl, rfl, k, hk, rfl, hno⟩
  repeat' (first | apply v_seq | apply v_region | apply v_nil | apply v_skip | apply v_block | apply v_blk | (apply v_exit; (case hp => rfl)) | (apply v_take; (case hg => rfl)) | (apply v_pass; (case hg => rfl); (case hn => rfl); (case hd => rfl)) | (apply v_passN; (case hg => rfl); (case hn => rfl); (case hd => rfl)) | (apply v_pure; (case hop => first | (apply p_move <;> rfl) | (apply p_lt <;> rfl) | (apply p_gt <;> rfl) | (apply p_le <;> rfl) | (apply p_assign <;> rfl) | (apply p_pickT <;> rfl) | (apply p_pickF <;> rfl) | (apply p_lenSlice <;> rfl) | (apply p_add; (case hx => rfl); (case hy => rfl); (case h => omega)) | (apply p_sub; (case hx => rfl); (case hy => rfl); (case h => omega)) | (apply p_indexAddrS; (case hx => rfl); (case hi => rfl); (case h0 => omega); (case h => omega); (case hA => (apply_assumption; omega))) | fail); (case hd => rfl)) | (apply v_condT; (case hc => rfl)) | (apply v_condF; (case hc => rfl)) | (apply v_cond; (case hc => rfl); all_goals (intro h; (try simp only [reduceCtorEq, zzz] at h))) | (apply v_guardB; (case h1 => rfl); (case h2 => rfl); all_goals (intro h; (try simp only [reduceCtorEq, zzz] at h))) | (apply v_read; (case hop => (apply r_load1; rfl; exact Cell.frozen (hel _ (by omega)))); (case hd => rfl)) | fail)
  all_goals have e1 : ((k : Nat) : Int).toNat = k := by omega
  all_goals have e2 : (((k : Nat) : Int) - 1).toNat = k - 1 := by omega
  all_goals try
    (refine v_ret [] (outsA1 rfl rfl) (by repeat (exact List.Sublist.refl _)) ?_
     refine ⟨?_, rfl, rfl⟩
     rw [decide_eq_false]
     rintro ⟨_, hm⟩
     have := hm k (by omega)
     simp only [e1, e2] at *
     omega)
  all_goals try
    (refine v_again rfl ⟨rfl, rfl, k + 1, by omega, rfl, fun i h hi => ?_⟩ (by simp [headI]; omega)
     by_cases hik : i = k
     · subst hik; simp only [e1, e2] at *; omega
     · exact hno i h (by omega))
  · refine v_ret [] (outsA1 rfl rfl) (by repeat (exact List.Sublist.refl _)) ?_
    refine ⟨?_, rfl, rfl⟩
    congr 1
    rw [dec_eq, decide_eq_decide]
    exact ⟨fun h => ⟨by omega, fun i h' => hno i h' (by omega)⟩, fun h => by have := h.1; omega⟩
theorem check_s {G : GH} {l : List Co} {sv : Value} (hs : Cos G sv l) : Con Tryz.prog 86 #[sv] G [] (Just (.int .i64 (if ConfOK l then 0 else 3)) G) := by
  obtain ⟨A, c, mA, mc, rfl, hlc, hcm, hsome, hcp, hc0, hc1, hmv, hwf⟩ := coOpen hs
  simp only [maxLen] at hcm
  (refine v_enter Tryz.func86 rfl Tryz.ntmps86 rfl ?_; intro B _)
  repeat' (first | apply v_seq | apply v_region | apply v_nil | apply v_skip | apply v_block | (apply v_take; (case hg => rfl)) | (apply v_pass; (case hg => rfl); (case hn => rfl); (case hd => rfl)) | (apply v_pure; (case hop => first | (apply p_move <;> rfl) | (apply p_eq <;> rfl) | (apply p_ne <;> rfl) | (apply p_assign <;> rfl) | (apply p_pickT <;> rfl) | (apply p_pickF <;> rfl) | (apply p_lenSlice <;> rfl) | (apply p_fieldAddr <;> rfl) | (apply p_indexAddrS; (case hx => rfl); (case hi => rfl); (case h0 => omega); (case h => omega); (case hA => (apply_assumption; omega))) | fail); (case hd => rfl)) | (apply v_condT; (case hc => rfl)) | (apply v_cond; (case hc => rfl); all_goals (intro h; (try simp only [reduceCtorEq, zzz] at h))) | (apply v_guardB; (case h1 => rfl); (case h2 => rfl); all_goals (intro h; (try simp only [reduceCtorEq, zzz] at h))) | (apply v_read; (case hop => (apply r_load1; rfl; exact Cell.frozen (hc0 _ (by omega)))); (case hd => rfl)) | fail)
  · refine v_ret [] (outsA1 rfl rfl) (by repeat (exact List.Sublist.refl _)) ?_
    refine ⟨?_, rfl, rfl⟩
    rw [if_neg]
    rintro ⟨⟨h0, _⟩, _⟩
    omega
  · refine v_ret [] (outsA1 rfl rfl) (by repeat (exact List.Sublist.refl _)) ?_
    refine ⟨?_, rfl, rfl⟩
    rw [if_neg]
    rintro ⟨⟨_, h0⟩, _⟩
    contradiction
  refine v_loop [17, 16, 15, 0] (fun us G' μ' => G' = G ∧ μ' = [] ∧ ∃ k, k ≤ l.length ∧ us = [Value.int .i64 (k : Nat), .int .i64 l.length, .slice A l.length c, .slice A l.length c] ∧ ∀ i (h : i < l.length), i < k → MemOK l[i].2 ∧ l[i].1 ≤ 4294967296 ∧ (0 < i → l[i - 1].1 < l[i].1)) (fun us => l.length - (headI us).toNat) rfl ⟨rfl, rfl, 0, by omega, rfl, by omega⟩ ?_
  rintro us G' μ' ⟨rfl, rfl, k, hk, rfl, hno⟩
  have e1 : ((k : Nat) : Int).toNat = k := by omega
  have e2 : (((k : Nat) : Int) - 1).toNat = k - 1 := by omega
  repeat' (first | apply v_seq | apply v_region | apply v_nil | apply v_skip | apply v_block | (apply v_exit; (case hp => rfl)) | (apply v_pure; (case hop => first | (apply p_move <;> rfl) | (apply p_lt <;> rfl) | (apply p_assign <;> rfl) | (apply p_indexAddrS; (case hx => rfl); (case hi => rfl); (case h0 => omega); (case h => omega); (case hA => (apply_assumption; omega))) | fail); (case hd => rfl)) | (apply v_cond; (case hc => rfl); all_goals (intro h; (try simp only [reduceCtorEq, zzz] at h))) | (apply v_read; (case hop => (apply r_loadN; rfl; exact CellsAt.frozen (hcp _ (by omega)); rfl)); (case hd => rfl)) | (apply v_alloc; (case hz => rfl); (case hd => rfl); intro b) | (apply v_store; (case hp => rfl); (case hx => rfl); (case hc => rfl); (case hsz => rfl); (case h1 => rfl); (case hb => (repeat (exact mhd _))); (case hfit => exact nle rfl); (case hov => ((repeat (first | with_reducible exact ov_nil | apply ov_cons)); done)); (case hu => repeat (exact Upd.here _ _))) | fail)
  · have hlt : k < l.length := by omega
    refine d_start _ (by kernel_rfl) (by kernel_rfl) (by kernel_rfl) (fun _ he => he) ?_
    all_goals (apply dtk 0; (case hi => rfl); (case hop => (apply prd; apply p_fieldAddrB <;> rfl)); (case hq => kernel_rfl))
    all_goals (apply dtk 1; (case hi => rfl); (case hop => (apply r_load1; rfl; (apply Cell.own; (case h => (repeat (exact mhd _))); rfl))); (case hq => kernel_rfl))
    all_goals (apply d_callJ 2 (hs := (members_s (hmv _ hlt))); (case hi => rfl); (case hr => kernel_rfl); (case ha => rfl); (case hd => rfl))
    all_goals (apply dtk 3; (case hi => rfl); (case hop => (apply prd; apply p_not <;> rfl)); (case hq => kernel_rfl))
    all_goals (apply dtk 4; (case hi => rfl); (case hop => (apply prd; apply p_move <;> rfl)); (case hq => kernel_rfl))
    all_goals (try (apply d_guardB 5; (case hi => rfl); (case hgd => rfl); (case h1 => rfl); (case h2 => rfl); all_goals (intro h; (try simp only [reduceCtorEq, zzz] at h))))
    all_goals (first | (apply dpa 5; (case hi => rfl); (case hg => rfl); (case hn => rfl); (case hq => kernel_rfl)) | (apply dtg 5; (case hi => rfl); (case hg => rfl); (case hop => (apply prd; apply p_fieldAddrB <;> rfl)); (case hq => kernel_rfl)) | fail)
    all_goals (try (apply d_guardB 6; (case hi => rfl); (case hgd => rfl); (case h1 => rfl); (case h2 => rfl); all_goals (intro h; (try simp only [reduceCtorEq, zzz] at h))))
    all_goals (first | (apply dpa 6; (case hi => rfl); (case hg => rfl); (case hn => rfl); (case hq => kernel_rfl)) | (apply dtg 6; (case hi => rfl); (case hg => rfl); (case hop => (apply r_load1; rfl; (apply Cell.own; (case h => (repeat (exact mhd _))); rfl))); (case hq => kernel_rfl)) | fail)
    all_goals (try (apply d_guardB 7; (case hi => rfl); (case hgd => rfl); (case h1 => rfl); (case h2 => rfl); all_goals (intro h; (try simp only [reduceCtorEq, zzz] at h))))
    all_goals (first | (apply dpa 7; (case hi => rfl); (case hg => rfl); (case hn => rfl); (case hq => kernel_rfl)) | (apply dtg 7; (case hi => rfl); (case hg => rfl); (case hop => (apply prd; apply p_gt <;> rfl)); (case hq => kernel_rfl)) | fail)
    all_goals (apply dtk 8; (case hi => rfl); (case hop => first | (apply prd; apply p_pickT <;> rfl) | (apply prd; apply p_pickF <;> rfl) | fail); (case hq => kernel_rfl))
    all_goals (apply dtk 9; (case hi => rfl); (case hop => (apply prd; apply p_move <;> rfl)); (case hq => kernel_rfl))
    all_goals (try (apply d_guardB 10; (case hi => rfl); (case hgd => rfl); (case h1 => rfl); (case h2 => rfl); all_goals (intro h; (try simp only [reduceCtorEq, zzz] at h))))
    all_goals (first | (apply dpa 10; (case hi => rfl); (case hg => rfl); (case hn => rfl); (case hq => kernel_rfl)) | (apply dtg 10; (case hi => rfl); (case hg => rfl); (case hop => (apply prd; apply p_move <;> rfl)); (case hq => kernel_rfl)) | fail)
    all_goals (try (apply d_guardB 11; (case hi => rfl); (case hgd => rfl); (case h1 => rfl); (case h2 => rfl); all_goals (intro h; (try simp only [reduceCtorEq, zzz] at h))))
    all_goals (first | (apply dpa 11; (case hi => rfl); (case hg => rfl); (case hn => rfl); (case hq => kernel_rfl)) | (apply dtg 11; (case hi => rfl); (case hg => rfl); (case hop => (apply prd; apply p_gt <;> rfl)); (case hq => kernel_rfl)) | fail)
    all_goals (try (apply d_guardB 12; (case hi => rfl); (case hgd => rfl); (case h1 => rfl); (case h2 => rfl); all_goals (intro h; (try simp only [reduceCtorEq, zzz] at h))))
    all_goals (first | (apply dpa 12; (case hi => rfl); (case hg => rfl); (case hn => rfl); (case hq => kernel_rfl)) | (apply dtg 12; (case hi => rfl); (case hg => rfl); (case hop => (apply prd; apply p_move <;> rfl)); (case hq => kernel_rfl)) | fail)
    all_goals (try (apply d_guardB 13; (case hi => rfl); (case hgd => rfl); (case h1 => rfl); (case h2 => rfl); all_goals (intro h; (try simp only [reduceCtorEq, zzz] at h))))
    all_goals (first | (apply dpa 13; (case hi => rfl); (case hg => rfl); (case hn => rfl); (case hq => kernel_rfl)) | (apply dpn 13; (case hi => rfl); (case hg => rfl); (case hn => rfl); (case hq => kernel_rfl)) | (apply dtg 13; (case hi => rfl); (case hg => rfl); (case hop => (apply prd; apply p_fieldAddrB <;> rfl)); (case hq => kernel_rfl)) | fail)
    all_goals (try (apply d_guardB 14; (case hi => rfl); (case hgd => rfl); (case h1 => rfl); (case h2 => rfl); all_goals (intro h; (try simp only [reduceCtorEq, zzz] at h))))
    all_goals (first | (apply dpa 14; (case hi => rfl); (case hg => rfl); (case hn => rfl); (case hq => kernel_rfl)) | (apply dpn 14; (case hi => rfl); (case hg => rfl); (case hn => rfl); (case hq => kernel_rfl)) | (apply dtg 14; (case hi => rfl); (case hg => rfl); (case hop => (apply r_load1; rfl; (apply Cell.own; (case h => (repeat (exact mhd _))); rfl))); (case hq => kernel_rfl)) | fail)
    all_goals (try (apply d_guardB 15; (case hi => rfl); (case hgd => rfl); (case h1 => rfl); (case h2 => rfl); all_goals (intro h; (try simp only [reduceCtorEq, zzz] at h))))
    all_goals (first | (apply dpa 15; (case hi => rfl); (case hg => rfl); (case hn => rfl); (case hq => kernel_rfl)) | (apply dpn 15; (case hi => rfl); (case hg => rfl); (case hn => rfl); (case hq => kernel_rfl)) | (apply dtg 15; (case hi => rfl); (case hg => rfl); (case hop => (apply prd; apply p_move <;> rfl)); (case hq => kernel_rfl)) | fail)
    all_goals (try (apply d_guardB 16; (case hi => rfl); (case hgd => rfl); (case h1 => rfl); (case h2 => rfl); all_goals (intro h; (try simp only [reduceCtorEq, zzz] at h))))
    all_goals (first | (apply dpa 16; (case hi => rfl); (case hg => rfl); (case hn => rfl); (case hq => kernel_rfl)) | (apply dpn 16; (case hi => rfl); (case hg => rfl); (case hn => rfl); (case hq => kernel_rfl)) | (apply dtg 16; (case hi => rfl); (case hg => rfl); (case hop => (apply prd; apply p_move <;> rfl)); (case hq => kernel_rfl)) | fail)
    all_goals (try (apply d_guardB 17; (case hi => rfl); (case hgd => rfl); (case h1 => rfl); (case h2 => rfl); all_goals (intro h; (try simp only [reduceCtorEq, zzz] at h))))
    all_goals (first | (apply dpa 17; (case hi => rfl); (case hg => rfl); (case hn => rfl); (case hq => kernel_rfl)) | (apply dpn 17; (case hi => rfl); (case hg => rfl); (case hn => rfl); (case hq => kernel_rfl)) | (apply dtg 17; (case hi => rfl); (case hg => rfl); (case hop => (apply prd; apply p_sub; (case hx => rfl); (case hy => rfl); (case h => omega))); (case hq => kernel_rfl)) | fail)
    all_goals (try (apply d_guardB 18; (case hi => rfl); (case hgd => rfl); (case h1 => rfl); (case h2 => rfl); all_goals (intro h; (try simp only [reduceCtorEq, zzz] at h))))
    all_goals (first | (apply dpa 18; (case hi => rfl); (case hg => rfl); (case hn => rfl); (case hq => kernel_rfl)) | (apply dpn 18; (case hi => rfl); (case hg => rfl); (case hn => rfl); (case hq => kernel_rfl)) | (apply dtg 18; (case hi => rfl); (case hg => rfl); (case hop => (apply prd; apply p_indexAddrS; (case hx => rfl); (case hi => rfl); (case h0 => omega); (case h => omega); (case hA => (apply_assumption; omega)))); (case hq => kernel_rfl)) | fail)
    all_goals (try (apply d_guardB 19; (case hi => rfl); (case hgd => rfl); (case h1 => rfl); (case h2 => rfl); all_goals (intro h; (try simp only [reduceCtorEq, zzz] at h))))
    all_goals (first | (apply dpa 19; (case hi => rfl); (case hg => rfl); (case hn => rfl); (case hq => kernel_rfl)) | (apply dpn 19; (case hi => rfl); (case hg => rfl); (case hn => rfl); (case hq => kernel_rfl)) | (apply dtg 19; (case hi => rfl); (case hg => rfl); (case hop => (apply prd; apply p_fieldAddr <;> rfl)); (case hq => kernel_rfl)) | fail)
    all_goals (try (apply d_guardB 20; (case hi => rfl); (case hgd => rfl); (case h1 => rfl); (case h2 => rfl); all_goals (intro h; (try simp only [reduceCtorEq, zzz] at h))))
    all_goals (first | (apply dpa 20; (case hi => rfl); (case hg => rfl); (case hn => rfl); (case hq => kernel_rfl)) | (apply dpn 20; (case hi => rfl); (case hg => rfl); (case hn => rfl); (case hq => kernel_rfl)) | (apply dtg 20; (case hi => rfl); (case hg => rfl); (case hop => ((apply r_load1; rfl; exact Cell.frozen (hc0 _ (by omega))))); (case hq => kernel_rfl)) | fail)
    all_goals (try (apply d_guardB 21; (case hi => rfl); (case hgd => rfl); (case h1 => rfl); (case h2 => rfl); all_goals (intro h; (try simp only [reduceCtorEq, zzz] at h))))
    all_goals (first | (apply dpa 21; (case hi => rfl); (case hg => rfl); (case hn => rfl); (case hq => kernel_rfl)) | (apply dpn 21; (case hi => rfl); (case hg => rfl); (case hn => rfl); (case hq => kernel_rfl)) | (apply dtg 21; (case hi => rfl); (case hg => rfl); (case hop => (apply prd; apply p_le <;> rfl)); (case hq => kernel_rfl)) | fail)
    all_goals (try (apply d_guardB 22; (case hi => rfl); (case hgd => rfl); (case h1 => rfl); (case h2 => rfl); all_goals (intro h; (try simp only [reduceCtorEq, zzz] at h))))
    all_goals (first | (apply dpa 22; (case hi => rfl); (case hg => rfl); (case hn => rfl); (case hq => kernel_rfl)) | (apply dtg 22; (case hi => rfl); (case hg => rfl); (case hop => first | (apply prd; apply p_pickT <;> rfl) | (apply prd; apply p_pickF <;> rfl) | fail); (case hq => kernel_rfl)) | fail)
    all_goals (apply dtk 23; (case hi => rfl); (case hop => first | (apply prd; apply p_pickT <;> rfl) | (apply prd; apply p_pickF <;> rfl) | fail); (case hq => kernel_rfl))
    all_goals (apply d_done; (case hr => kernel_rfl))
    repeat' (first | apply v_seq | apply v_region | apply v_nil | apply v_skip | apply v_blk | (apply v_pure; (case hop => first | (apply p_move <;> rfl) | (apply p_assign <;> rfl) | (apply p_add; (case hx => rfl); (case hy => rfl); (case h => omega)) | fail); (case hd => rfl)) | (apply v_condT; (case hc => rfl)) | (apply v_condF; (case hc => rfl)) | (apply v_cond; (case hc => rfl); all_goals (intro h; (try simp only [reduceCtorEq, zzz] at h))) | fail)
    all_goals try
      (refine v_ret [] (outsA1 rfl rfl) (by repeat (first | exact List.Sublist.refl _ | exact List.nil_sublist _ | fail)) ?_
       refine ⟨?_, rfl, rfl⟩
       rw [if_neg]
       rintro ⟨_, hm⟩
       obtain ⟨q1, q2, q3⟩ := hm k (by omega)
       simp only [e1, e2] at *
       first | contradiction | omega)
    all_goals
      (refine v_drop (ν := []) (by repeat (exact List.nil_sublist _)) ?_
       refine v_again rfl ⟨rfl, rfl, k + 1, by omega, rfl, fun i h hi => ?_⟩ (by simp [headI]; omega)
       by_cases hik : i = k
       · subst hik
         simp only [e1, e2] at *
         exact ⟨by assumption, by omega, by omega⟩
       · exact hno i h (by omega))
  · refine v_ret [] (outsA1 rfl rfl) (by repeat (exact List.Sublist.refl _)) ?_
    refine ⟨?_, rfl, rfl⟩
    rw [if_pos ⟨⟨by omega, by assumption⟩, fun i h => hno i h (by omega)⟩]
set_option maxHeartbeats 1000000 in
theorem refConfCheck_s {G : GH} {l : List Co} {sv : Value} (hs : Cos G sv l) : Con Tryz.prog 30 #[sv] G [] (Just (.bool (decide (ConfOK l))) G) := by
  obtain ⟨A, c, mA, mc, rfl, hlc, hcm, hsome, hcp, hc0, hc1, hmv, hwf⟩ := coOpen hs
  simp only [maxLen] at hcm
  (refine v_enter Tryz.func30 rfl Tryz.ntmps30 rfl ?_; intro B _)
  repeat' (first | apply v_seq | apply v_region | apply v_nil | apply v_skip | apply v_block | (apply v_take; (case hg => rfl)) | (apply v_pass; (case hg => rfl); (case hn => rfl); (case hd => rfl)) | (apply v_pure; (case hop => first | (apply p_move <;> rfl) | (apply p_eq <;> rfl) | (apply p_ne <;> rfl) | (apply p_assign <;> rfl) | (apply p_pickT <;> rfl) | (apply p_pickF <;> rfl) | (apply p_lenSlice <;> rfl) | (apply p_fieldAddr <;> rfl) | (apply p_indexAddrS; (case hx => rfl); (case hi => rfl); (case h0 => omega); (case h => omega); (case hA => (apply_assumption; omega))) | fail); (case hd => rfl)) | (apply v_condT; (case hc => rfl)) | (apply v_cond; (case hc => rfl); all_goals (intro h; (try simp only [reduceCtorEq, zzz] at h))) | (apply v_guardB; (case h1 => rfl); (case h2 => rfl); all_goals (intro h; (try simp only [reduceCtorEq, zzz] at h))) | (apply v_read; (case hop => (apply r_load1; rfl; exact Cell.frozen (hc0 _ (by omega)))); (case hd => rfl)) | fail)
  · refine v_ret [] (outsA1 rfl rfl) (by repeat (exact List.Sublist.refl _)) ?_
    refine ⟨?_, rfl, rfl⟩
    rw [decide_eq_false]
    rintro ⟨⟨h0, _⟩, _⟩
    omega
  · refine v_ret [] (outsA1 rfl rfl) (by repeat (exact List.Sublist.refl _)) ?_
    refine ⟨?_, rfl, rfl⟩
    rw [decide_eq_false]
    rintro ⟨⟨_, h0⟩, _⟩
    contradiction
  refine v_loop [3, 0] (fun us G' μ' => G' = G ∧ μ' = [] ∧ ∃ k, k ≤ l.length ∧ us = [Value.int .i64 (k : Nat), .slice A l.length c] ∧ ∀ i (h : i < l.length), i < k → MemOK l[i].2 ∧ l[i].1 ≤ 4294967296 ∧ (0 < i → l[i - 1].1 < l[i].1)) (fun us => l.length - (headI us).toNat) rfl ⟨rfl, rfl, 0, by omega, rfl, by omega⟩ ?_
  rintro us G' μ' ⟨rfl, rfl, k, hk, rfl, hno⟩
  have e1 : ((k : Nat) : Int).toNat = k := by omega
  have e2 : (((k : Nat) : Int) - 1).toNat = k - 1 := by omega
  repeat' (first | apply v_seq | apply v_region | apply v_nil | apply v_skip | apply v_block | (apply v_exit; (case hp => rfl)) | (apply v_pure; (case hop => first | (apply p_move <;> rfl) | (apply p_lt <;> rfl) | (apply p_assign <;> rfl) | (apply p_lenSlice <;> rfl) | (apply p_fieldAddr <;> rfl) | (apply p_indexAddrS; (case hx => rfl); (case hi => rfl); (case h0 => omega); (case h => omega); (case hA => (apply_assumption; omega))) | fail); (case hd => rfl)) | (apply v_cond; (case hc => rfl); all_goals (intro h; (try simp only [reduceCtorEq, zzz] at h))) | (apply v_read; (case hop => (apply r_load1; rfl; exact Cell.frozen (hc1 _ (by omega)))); (case hd => rfl)) | fail)
  · have hlt : k < l.length := by omega
    refine d_start [] (by kernel_rfl) (by kernel_rfl) (by kernel_rfl) (by intro e he; exact he) ?_
    all_goals (apply dtk 0; (case hi => rfl); (case hop => (apply prd; apply p_move <;> rfl)); (case hq => kernel_rfl))
    all_goals (apply dtk 1; (case hi => rfl); (case hop => (apply prd; apply p_lenSlice <;> rfl)); (case hq => kernel_rfl))
    all_goals (apply dtk 2; (case hi => rfl); (case hop => (apply prd; apply p_eq <;> rfl)); (case hq => kernel_rfl))
    all_goals (apply dtk 3; (case hi => rfl); (case hop => (apply prd; apply p_move <;> rfl)); (case hq => kernel_rfl))
    all_goals (try (apply d_guardB 4; (case hi => rfl); (case hgd => rfl); (case h1 => rfl); (case h2 => rfl); all_goals (intro h; (try simp only [reduceCtorEq, zzz] at h))))
    all_goals (first | (apply dpa 4; (case hi => rfl); (case hg => rfl); (case hn => rfl); (case hq => kernel_rfl)) | (apply dtg 4; (case hi => rfl); (case hg => rfl); (case hop => (apply prd; apply p_move <;> rfl)); (case hq => kernel_rfl)) | fail)
    all_goals (try (apply d_guardB 5; (case hi => rfl); (case hgd => rfl); (case h1 => rfl); (case h2 => rfl); all_goals (intro h; (try simp only [reduceCtorEq, zzz] at h))))
    all_goals (first | (apply dpa 5; (case hi => rfl); (case hg => rfl); (case hn => rfl); (case hq => kernel_rfl)) | (apply dtg 5; (case hi => rfl); (case hg => rfl); (case hop => (apply prd; apply p_move <;> rfl)); (case hq => kernel_rfl)) | fail)
    all_goals (try (apply d_guardB 6; (case hi => rfl); (case hgd => rfl); (case h1 => rfl); (case h2 => rfl); all_goals (intro h; (try simp only [reduceCtorEq, zzz] at h))))
    all_goals (first | (apply dpa 6; (case hi => rfl); (case hg => rfl); (case hn => rfl); (case hq => kernel_rfl)) | (apply dtg 6; (case hi => rfl); (case hg => rfl); (case hop => (apply prd; apply p_indexAddrS; (case hx => rfl); (case hi => rfl); (case h0 => omega); (case h => omega); (case hA => (apply_assumption; omega)))); (case hq => kernel_rfl)) | fail)
    all_goals (try (apply d_guardB 7; (case hi => rfl); (case hgd => rfl); (case h1 => rfl); (case h2 => rfl); all_goals (intro h; (try simp only [reduceCtorEq, zzz] at h))))
    all_goals (first | (apply dpa 7; (case hi => rfl); (case hg => rfl); (case hn => rfl); (case hq => kernel_rfl)) | (apply dtg 7; (case hi => rfl); (case hg => rfl); (case hop => (apply prd; apply p_fieldAddr <;> rfl)); (case hq => kernel_rfl)) | fail)
    all_goals (try (apply d_guardB 8; (case hi => rfl); (case hgd => rfl); (case h1 => rfl); (case h2 => rfl); all_goals (intro h; (try simp only [reduceCtorEq, zzz] at h))))
    all_goals (first | (apply dpa 8; (case hi => rfl); (case hg => rfl); (case hn => rfl); (case hq => kernel_rfl)) | (apply dtg 8; (case hi => rfl); (case hg => rfl); (case hop => ((apply r_load1; rfl; exact Cell.frozen (hc0 _ (by omega))))); (case hq => kernel_rfl)) | fail)
    all_goals (try (apply d_guardB 9; (case hi => rfl); (case hgd => rfl); (case h1 => rfl); (case h2 => rfl); all_goals (intro h; (try simp only [reduceCtorEq, zzz] at h))))
    all_goals (first | (apply dpa 9; (case hi => rfl); (case hg => rfl); (case hn => rfl); (case hq => kernel_rfl)) | (apply dtg 9; (case hi => rfl); (case hg => rfl); (case hop => (apply prd; apply p_gt <;> rfl)); (case hq => kernel_rfl)) | fail)
    all_goals (apply dtk 10; (case hi => rfl); (case hop => first | (apply prd; apply p_pickT <;> rfl) | (apply prd; apply p_pickF <;> rfl) | fail); (case hq => kernel_rfl))
    all_goals (apply dtk 11; (case hi => rfl); (case hop => (apply prd; apply p_move <;> rfl)); (case hq => kernel_rfl))
    all_goals (try (apply d_guardB 12; (case hi => rfl); (case hgd => rfl); (case h1 => rfl); (case h2 => rfl); all_goals (intro h; (try simp only [reduceCtorEq, zzz] at h))))
    all_goals (first | (apply dpa 12; (case hi => rfl); (case hg => rfl); (case hn => rfl); (case hq => kernel_rfl)) | (apply dtg 12; (case hi => rfl); (case hg => rfl); (case hop => (apply prd; apply p_move <;> rfl)); (case hq => kernel_rfl)) | fail)
    all_goals (try (apply d_guardB 13; (case hi => rfl); (case hgd => rfl); (case h1 => rfl); (case h2 => rfl); all_goals (intro h; (try simp only [reduceCtorEq, zzz] at h))))
    all_goals (first | (apply dpa 13; (case hi => rfl); (case hg => rfl); (case hn => rfl); (case hq => kernel_rfl)) | (apply dtg 13; (case hi => rfl); (case hg => rfl); (case hop => (apply prd; apply p_gt <;> rfl)); (case hq => kernel_rfl)) | fail)
    all_goals (try (apply d_guardB 14; (case hi => rfl); (case hgd => rfl); (case h1 => rfl); (case h2 => rfl); all_goals (intro h; (try simp only [reduceCtorEq, zzz] at h))))
    all_goals (first | (apply dpa 14; (case hi => rfl); (case hg => rfl); (case hn => rfl); (case hq => kernel_rfl)) | (apply dtg 14; (case hi => rfl); (case hg => rfl); (case hop => (apply prd; apply p_move <;> rfl)); (case hq => kernel_rfl)) | fail)
    all_goals (try (apply d_guardB 15; (case hi => rfl); (case hgd => rfl); (case h1 => rfl); (case h2 => rfl); all_goals (intro h; (try simp only [reduceCtorEq, zzz] at h))))
    all_goals (first | (apply dpa 15; (case hi => rfl); (case hg => rfl); (case hn => rfl); (case hq => kernel_rfl)) | (apply dpn 15; (case hi => rfl); (case hg => rfl); (case hn => rfl); (case hq => kernel_rfl)) | (apply dtg 15; (case hi => rfl); (case hg => rfl); (case hop => (apply prd; apply p_move <;> rfl)); (case hq => kernel_rfl)) | fail)
    all_goals (try (apply d_guardB 16; (case hi => rfl); (case hgd => rfl); (case h1 => rfl); (case h2 => rfl); all_goals (intro h; (try simp only [reduceCtorEq, zzz] at h))))
    all_goals (first | (apply dpa 16; (case hi => rfl); (case hg => rfl); (case hn => rfl); (case hq => kernel_rfl)) | (apply dpn 16; (case hi => rfl); (case hg => rfl); (case hn => rfl); (case hq => kernel_rfl)) | (apply dtg 16; (case hi => rfl); (case hg => rfl); (case hop => (apply prd; apply p_move <;> rfl)); (case hq => kernel_rfl)) | fail)
    all_goals (try (apply d_guardB 17; (case hi => rfl); (case hgd => rfl); (case h1 => rfl); (case h2 => rfl); all_goals (intro h; (try simp only [reduceCtorEq, zzz] at h))))
    all_goals (first | (apply dpa 17; (case hi => rfl); (case hg => rfl); (case hn => rfl); (case hq => kernel_rfl)) | (apply dpn 17; (case hi => rfl); (case hg => rfl); (case hn => rfl); (case hq => kernel_rfl)) | (apply dtg 17; (case hi => rfl); (case hg => rfl); (case hop => (apply prd; apply p_indexAddrS; (case hx => rfl); (case hi => rfl); (case h0 => omega); (case h => omega); (case hA => (apply_assumption; omega)))); (case hq => kernel_rfl)) | fail)
    all_goals (try (apply d_guardB 18; (case hi => rfl); (case hgd => rfl); (case h1 => rfl); (case h2 => rfl); all_goals (intro h; (try simp only [reduceCtorEq, zzz] at h))))
    all_goals (first | (apply dpa 18; (case hi => rfl); (case hg => rfl); (case hn => rfl); (case hq => kernel_rfl)) | (apply dpn 18; (case hi => rfl); (case hg => rfl); (case hn => rfl); (case hq => kernel_rfl)) | (apply dtg 18; (case hi => rfl); (case hg => rfl); (case hop => (apply prd; apply p_fieldAddr <;> rfl)); (case hq => kernel_rfl)) | fail)
    all_goals (try (apply d_guardB 19; (case hi => rfl); (case hgd => rfl); (case h1 => rfl); (case h2 => rfl); all_goals (intro h; (try simp only [reduceCtorEq, zzz] at h))))
    all_goals (first | (apply dpa 19; (case hi => rfl); (case hg => rfl); (case hn => rfl); (case hq => kernel_rfl)) | (apply dpn 19; (case hi => rfl); (case hg => rfl); (case hn => rfl); (case hq => kernel_rfl)) | (apply dtg 19; (case hi => rfl); (case hg => rfl); (case hop => ((apply r_load1; rfl; exact Cell.frozen (hc0 _ (by omega))))); (case hq => kernel_rfl)) | fail)
    all_goals (try (apply d_guardB 20; (case hi => rfl); (case hgd => rfl); (case h1 => rfl); (case h2 => rfl); all_goals (intro h; (try simp only [reduceCtorEq, zzz] at h))))
    all_goals (first | (apply dpa 20; (case hi => rfl); (case hg => rfl); (case hn => rfl); (case hq => kernel_rfl)) | (apply dpn 20; (case hi => rfl); (case hg => rfl); (case hn => rfl); (case hq => kernel_rfl)) | (apply dtg 20; (case hi => rfl); (case hg => rfl); (case hop => (apply prd; apply p_move <;> rfl)); (case hq => kernel_rfl)) | fail)
    all_goals (try (apply d_guardB 21; (case hi => rfl); (case hgd => rfl); (case h1 => rfl); (case h2 => rfl); all_goals (intro h; (try simp only [reduceCtorEq, zzz] at h))))
    all_goals (first | (apply dpa 21; (case hi => rfl); (case hg => rfl); (case hn => rfl); (case hq => kernel_rfl)) | (apply dpn 21; (case hi => rfl); (case hg => rfl); (case hn => rfl); (case hq => kernel_rfl)) | (apply dtg 21; (case hi => rfl); (case hg => rfl); (case hop => (apply prd; apply p_move <;> rfl)); (case hq => kernel_rfl)) | fail)
    all_goals (try (apply d_guardB 22; (case hi => rfl); (case hgd => rfl); (case h1 => rfl); (case h2 => rfl); all_goals (intro h; (try simp only [reduceCtorEq, zzz] at h))))
    all_goals (first | (apply dpa 22; (case hi => rfl); (case hg => rfl); (case hn => rfl); (case hq => kernel_rfl)) | (apply dpn 22; (case hi => rfl); (case hg => rfl); (case hn => rfl); (case hq => kernel_rfl)) | (apply dtg 22; (case hi => rfl); (case hg => rfl); (case hop => (apply prd; apply p_sub; (case hx => rfl); (case hy => rfl); (case h => omega))); (case hq => kernel_rfl)) | fail)
    all_goals (try (apply d_guardB 23; (case hi => rfl); (case hgd => rfl); (case h1 => rfl); (case h2 => rfl); all_goals (intro h; (try simp only [reduceCtorEq, zzz] at h))))
    all_goals (first | (apply dpa 23; (case hi => rfl); (case hg => rfl); (case hn => rfl); (case hq => kernel_rfl)) | (apply dpn 23; (case hi => rfl); (case hg => rfl); (case hn => rfl); (case hq => kernel_rfl)) | (apply dtg 23; (case hi => rfl); (case hg => rfl); (case hop => (apply prd; apply p_indexAddrS; (case hx => rfl); (case hi => rfl); (case h0 => omega); (case h => omega); (case hA => (apply_assumption; omega)))); (case hq => kernel_rfl)) | fail)
    all_goals (try (apply d_guardB 24; (case hi => rfl); (case hgd => rfl); (case h1 => rfl); (case h2 => rfl); all_goals (intro h; (try simp only [reduceCtorEq, zzz] at h))))
    all_goals (first | (apply dpa 24; (case hi => rfl); (case hg => rfl); (case hn => rfl); (case hq => kernel_rfl)) | (apply dpn 24; (case hi => rfl); (case hg => rfl); (case hn => rfl); (case hq => kernel_rfl)) | (apply dtg 24; (case hi => rfl); (case hg => rfl); (case hop => (apply prd; apply p_fieldAddr <;> rfl)); (case hq => kernel_rfl)) | fail)
    all_goals (try (apply d_guardB 25; (case hi => rfl); (case hgd => rfl); (case h1 => rfl); (case h2 => rfl); all_goals (intro h; (try simp only [reduceCtorEq, zzz] at h))))
    all_goals (first | (apply dpa 25; (case hi => rfl); (case hg => rfl); (case hn => rfl); (case hq => kernel_rfl)) | (apply dpn 25; (case hi => rfl); (case hg => rfl); (case hn => rfl); (case hq => kernel_rfl)) | (apply dtg 25; (case hi => rfl); (case hg => rfl); (case hop => ((apply r_load1; rfl; exact Cell.frozen (hc0 _ (by omega))))); (case hq => kernel_rfl)) | fail)
    all_goals (try (apply d_guardB 26; (case hi => rfl); (case hgd => rfl); (case h1 => rfl); (case h2 => rfl); all_goals (intro h; (try simp only [reduceCtorEq, zzz] at h))))
    all_goals (first | (apply dpa 26; (case hi => rfl); (case hg => rfl); (case hn => rfl); (case hq => kernel_rfl)) | (apply dpn 26; (case hi => rfl); (case hg => rfl); (case hn => rfl); (case hq => kernel_rfl)) | (apply dtg 26; (case hi => rfl); (case hg => rfl); (case hop => (apply prd; apply p_le <;> rfl)); (case hq => kernel_rfl)) | fail)
    all_goals (try (apply d_guardB 27; (case hi => rfl); (case hgd => rfl); (case h1 => rfl); (case h2 => rfl); all_goals (intro h; (try simp only [reduceCtorEq, zzz] at h))))
    all_goals (first | (apply dpa 27; (case hi => rfl); (case hg => rfl); (case hn => rfl); (case hq => kernel_rfl)) | (apply dtg 27; (case hi => rfl); (case hg => rfl); (case hop => first | (apply prd; apply p_pickT <;> rfl) | (apply prd; apply p_pickF <;> rfl) | fail); (case hq => kernel_rfl)) | fail)
    all_goals (apply dtk 28; (case hi => rfl); (case hop => first | (apply prd; apply p_pickT <;> rfl) | (apply prd; apply p_pickF <;> rfl) | fail); (case hq => kernel_rfl))
    all_goals (apply d_done; (case hr => kernel_rfl))
    repeat' (first | apply v_seq | apply v_region | apply v_nil | apply v_skip | apply v_block | (apply v_pure; (case hop => (apply p_assign <;> rfl)); (case hd => rfl)) | (apply v_condT; (case hc => rfl)) | (apply v_condF; (case hc => rfl)) | (apply v_cond; (case hc => rfl); all_goals (intro h; (try simp only [reduceCtorEq, zzz] at h))) | fail)
    all_goals try
      (refine v_ret [] (outsA1 rfl rfl) (by repeat (exact List.Sublist.refl _)) ?_
       refine ⟨?_, rfl, rfl⟩
       rw [decide_eq_false]
       rintro ⟨_, hm⟩
       obtain ⟨⟨q1, q0⟩, q2, q3⟩ := hm k (by omega)
       simp only [e1, e2] at *
       omega)
    all_goals
      (have hne : ¬ ((l[k].2.length : Int) = 0) := by assumption
       obtain ⟨A', c', he, hlc', hcm', hsome', hel', _⟩ := (hmv k hlt).openInt
       injection he with ea _ ec
       subst ea
       subst ec
       simp only [maxLen] at hcm'
       refine v_loop [5, 4, 3, 0] (fun us G'' μ' => G'' = G' ∧ μ' = [] ∧ ∃ j, j ≤ l[k].2.length ∧ us = [Value.int .i64 (j : Nat), .slice (mA k) l[k].2.length (mc k), .int .i64 (k : Nat), .slice A l.length c] ∧ ∀ i (h : i < l[k].2.length), i < j → 1 ≤ l[k].2[i] ∧ l[k].2[i] ≤ 9 ∧ (0 < i → l[k].2[i - 1] < l[k].2[i])) (fun us => l[k].2.length - (headI us).toNat) rfl ⟨rfl, rfl, 0, by omega, rfl, by omega⟩ ?_
       rintro us G'' μ' ⟨rfl, rfl, j, hj, rfl, hin⟩
       have e3 : ((j : Nat) : Int).toNat = j := by omega
       have e4 : (((j : Nat) : Int) - 1).toNat = j - 1 := by omega
       repeat' (first | apply v_seq | apply v_region | apply v_nil | apply v_skip | apply v_block | apply v_blk | (apply v_exit; (case hp => rfl)) | (apply v_pure; (case hop => first | (apply p_move <;> rfl) | (apply p_lt <;> rfl) | (apply p_assign <;> rfl) | (apply p_lenSlice <;> rfl) | (apply p_add; (case hx => rfl); (case hy => rfl); (case h => omega)) | fail); (case hd => rfl)) | (apply v_cond; (case hc => rfl); all_goals (intro h; (try simp only [reduceCtorEq, zzz] at h))) | fail)
       · refine d_start [] (by kernel_rfl) (by kernel_rfl) (by kernel_rfl) (by intro e he; exact he) ?_
         all_goals (apply dtk 0; (case hi => rfl); (case hop => (apply prd; apply p_move <;> rfl)); (case hq => kernel_rfl))
         all_goals (apply dtk 1; (case hi => rfl); (case hop => (apply prd; apply p_move <;> rfl)); (case hq => kernel_rfl))
         all_goals (apply dtk 2; (case hi => rfl); (case hop => (apply prd; apply p_indexAddrS; (case hx => rfl); (case hi => rfl); (case h0 => omega); (case h => omega); (case hA => (apply_assumption; omega)))); (case hq => kernel_rfl))
         all_goals (apply dtk 3; (case hi => rfl); (case hop => ((apply r_load1; rfl; exact Cell.frozen (hel' _ (by omega))))); (case hq => kernel_rfl))
         all_goals (apply dtk 4; (case hi => rfl); (case hop => (apply prd; apply p_lt <;> rfl)); (case hq => kernel_rfl))
         all_goals (apply dtk 5; (case hi => rfl); (case hop => (apply prd; apply p_move <;> rfl)); (case hq => kernel_rfl))
         all_goals (try (apply d_guardB 6; (case hi => rfl); (case hgd => rfl); (case h1 => rfl); (case h2 => rfl); all_goals (intro h; (try simp only [reduceCtorEq, zzz] at h))))
         all_goals (first | (apply dpa 6; (case hi => rfl); (case hg => rfl); (case hn => rfl); (case hq => kernel_rfl)) | (apply dtg 6; (case hi => rfl); (case hg => rfl); (case hop => (apply prd; apply p_move <;> rfl)); (case hq => kernel_rfl)) | fail)
         all_goals (try (apply d_guardB 7; (case hi => rfl); (case hgd => rfl); (case h1 => rfl); (case h2 => rfl); all_goals (intro h; (try simp only [reduceCtorEq, zzz] at h))))
         all_goals (first | (apply dpa 7; (case hi => rfl); (case hg => rfl); (case hn => rfl); (case hq => kernel_rfl)) | (apply dtg 7; (case hi => rfl); (case hg => rfl); (case hop => (apply prd; apply p_move <;> rfl)); (case hq => kernel_rfl)) | fail)
         all_goals (try (apply d_guardB 8; (case hi => rfl); (case hgd => rfl); (case h1 => rfl); (case h2 => rfl); all_goals (intro h; (try simp only [reduceCtorEq, zzz] at h))))
         all_goals (first | (apply dpa 8; (case hi => rfl); (case hg => rfl); (case hn => rfl); (case hq => kernel_rfl)) | (apply dtg 8; (case hi => rfl); (case hg => rfl); (case hop => (apply prd; apply p_indexAddrS; (case hx => rfl); (case hi => rfl); (case h0 => omega); (case h => omega); (case hA => (apply_assumption; omega)))); (case hq => kernel_rfl)) | fail)
         all_goals (try (apply d_guardB 9; (case hi => rfl); (case hgd => rfl); (case h1 => rfl); (case h2 => rfl); all_goals (intro h; (try simp only [reduceCtorEq, zzz] at h))))
         all_goals (first | (apply dpa 9; (case hi => rfl); (case hg => rfl); (case hn => rfl); (case hq => kernel_rfl)) | (apply dtg 9; (case hi => rfl); (case hg => rfl); (case hop => ((apply r_load1; rfl; exact Cell.frozen (hel' _ (by omega))))); (case hq => kernel_rfl)) | fail)
         all_goals (try (apply d_guardB 10; (case hi => rfl); (case hgd => rfl); (case h1 => rfl); (case h2 => rfl); all_goals (intro h; (try simp only [reduceCtorEq, zzz] at h))))
         all_goals (first | (apply dpa 10; (case hi => rfl); (case hg => rfl); (case hn => rfl); (case hq => kernel_rfl)) | (apply dtg 10; (case hi => rfl); (case hg => rfl); (case hop => (apply prd; apply p_gt <;> rfl)); (case hq => kernel_rfl)) | fail)
         all_goals (apply dtk 11; (case hi => rfl); (case hop => first | (apply prd; apply p_pickT <;> rfl) | (apply prd; apply p_pickF <;> rfl) | fail); (case hq => kernel_rfl))
         all_goals (apply dtk 12; (case hi => rfl); (case hop => (apply prd; apply p_move <;> rfl)); (case hq => kernel_rfl))
         all_goals (try (apply d_guardB 13; (case hi => rfl); (case hgd => rfl); (case h1 => rfl); (case h2 => rfl); all_goals (intro h; (try simp only [reduceCtorEq, zzz] at h))))
         all_goals (first | (apply dpa 13; (case hi => rfl); (case hg => rfl); (case hn => rfl); (case hq => kernel_rfl)) | (apply dtg 13; (case hi => rfl); (case hg => rfl); (case hop => (apply prd; apply p_move <;> rfl)); (case hq => kernel_rfl)) | fail)
         all_goals (try (apply d_guardB 14; (case hi => rfl); (case hgd => rfl); (case h1 => rfl); (case h2 => rfl); all_goals (intro h; (try simp only [reduceCtorEq, zzz] at h))))
         all_goals (first | (apply dpa 14; (case hi => rfl); (case hg => rfl); (case hn => rfl); (case hq => kernel_rfl)) | (apply dtg 14; (case hi => rfl); (case hg => rfl); (case hop => (apply prd; apply p_gt <;> rfl)); (case hq => kernel_rfl)) | fail)
         all_goals (try (apply d_guardB 15; (case hi => rfl); (case hgd => rfl); (case h1 => rfl); (case h2 => rfl); all_goals (intro h; (try simp only [reduceCtorEq, zzz] at h))))
         all_goals (first | (apply dpa 15; (case hi => rfl); (case hg => rfl); (case hn => rfl); (case hq => kernel_rfl)) | (apply dtg 15; (case hi => rfl); (case hg => rfl); (case hop => (apply prd; apply p_move <;> rfl)); (case hq => kernel_rfl)) | fail)
         all_goals (try (apply d_guardB 16; (case hi => rfl); (case hgd => rfl); (case h1 => rfl); (case h2 => rfl); all_goals (intro h; (try simp only [reduceCtorEq, zzz] at h))))
         all_goals (first | (apply dpa 16; (case hi => rfl); (case hg => rfl); (case hn => rfl); (case hq => kernel_rfl)) | (apply dpn 16; (case hi => rfl); (case hg => rfl); (case hn => rfl); (case hq => kernel_rfl)) | (apply dtg 16; (case hi => rfl); (case hg => rfl); (case hop => (apply prd; apply p_move <;> rfl)); (case hq => kernel_rfl)) | fail)
         all_goals (try (apply d_guardB 17; (case hi => rfl); (case hgd => rfl); (case h1 => rfl); (case h2 => rfl); all_goals (intro h; (try simp only [reduceCtorEq, zzz] at h))))
         all_goals (first | (apply dpa 17; (case hi => rfl); (case hg => rfl); (case hn => rfl); (case hq => kernel_rfl)) | (apply dpn 17; (case hi => rfl); (case hg => rfl); (case hn => rfl); (case hq => kernel_rfl)) | (apply dtg 17; (case hi => rfl); (case hg => rfl); (case hop => (apply prd; apply p_move <;> rfl)); (case hq => kernel_rfl)) | fail)
         all_goals (try (apply d_guardB 18; (case hi => rfl); (case hgd => rfl); (case h1 => rfl); (case h2 => rfl); all_goals (intro h; (try simp only [reduceCtorEq, zzz] at h))))
         all_goals (first | (apply dpa 18; (case hi => rfl); (case hg => rfl); (case hn => rfl); (case hq => kernel_rfl)) | (apply dpn 18; (case hi => rfl); (case hg => rfl); (case hn => rfl); (case hq => kernel_rfl)) | (apply dtg 18; (case hi => rfl); (case hg => rfl); (case hop => (apply prd; apply p_indexAddrS; (case hx => rfl); (case hi => rfl); (case h0 => omega); (case h => omega); (case hA => (apply_assumption; omega)))); (case hq => kernel_rfl)) | fail)
         all_goals (try (apply d_guardB 19; (case hi => rfl); (case hgd => rfl); (case h1 => rfl); (case h2 => rfl); all_goals (intro h; (try simp only [reduceCtorEq, zzz] at h))))
         all_goals (first | (apply dpa 19; (case hi => rfl); (case hg => rfl); (case hn => rfl); (case hq => kernel_rfl)) | (apply dpn 19; (case hi => rfl); (case hg => rfl); (case hn => rfl); (case hq => kernel_rfl)) | (apply dtg 19; (case hi => rfl); (case hg => rfl); (case hop => ((apply r_load1; rfl; exact Cell.frozen (hel' _ (by omega))))); (case hq => kernel_rfl)) | fail)
         all_goals (try (apply d_guardB 20; (case hi => rfl); (case hgd => rfl); (case h1 => rfl); (case h2 => rfl); all_goals (intro h; (try simp only [reduceCtorEq, zzz] at h))))
         all_goals (first | (apply dpa 20; (case hi => rfl); (case hg => rfl); (case hn => rfl); (case hq => kernel_rfl)) | (apply dpn 20; (case hi => rfl); (case hg => rfl); (case hn => rfl); (case hq => kernel_rfl)) | (apply dtg 20; (case hi => rfl); (case hg => rfl); (case hop => (apply prd; apply p_move <;> rfl)); (case hq => kernel_rfl)) | fail)
         all_goals (try (apply d_guardB 21; (case hi => rfl); (case hgd => rfl); (case h1 => rfl); (case h2 => rfl); all_goals (intro h; (try simp only [reduceCtorEq, zzz] at h))))
         all_goals (first | (apply dpa 21; (case hi => rfl); (case hg => rfl); (case hn => rfl); (case hq => kernel_rfl)) | (apply dpn 21; (case hi => rfl); (case hg => rfl); (case hn => rfl); (case hq => kernel_rfl)) | (apply dtg 21; (case hi => rfl); (case hg => rfl); (case hop => (apply prd; apply p_move <;> rfl)); (case hq => kernel_rfl)) | fail)
         all_goals (try (apply d_guardB 22; (case hi => rfl); (case hgd => rfl); (case h1 => rfl); (case h2 => rfl); all_goals (intro h; (try simp only [reduceCtorEq, zzz] at h))))
         all_goals (first | (apply dpa 22; (case hi => rfl); (case hg => rfl); (case hn => rfl); (case hq => kernel_rfl)) | (apply dpn 22; (case hi => rfl); (case hg => rfl); (case hn => rfl); (case hq => kernel_rfl)) | (apply dtg 22; (case hi => rfl); (case hg => rfl); (case hop => (apply prd; apply p_sub; (case hx => rfl); (case hy => rfl); (case h => omega))); (case hq => kernel_rfl)) | fail)
         all_goals (try (apply d_guardB 23; (case hi => rfl); (case hgd => rfl); (case h1 => rfl); (case h2 => rfl); all_goals (intro h; (try simp only [reduceCtorEq, zzz] at h))))
         all_goals (first | (apply dpa 23; (case hi => rfl); (case hg => rfl); (case hn => rfl); (case hq => kernel_rfl)) | (apply dpn 23; (case hi => rfl); (case hg => rfl); (case hn => rfl); (case hq => kernel_rfl)) | (apply dtg 23; (case hi => rfl); (case hg => rfl); (case hop => (apply prd; apply p_indexAddrS; (case hx => rfl); (case hi => rfl); (case h0 => omega); (case h => omega); (case hA => (apply_assumption; omega)))); (case hq => kernel_rfl)) | fail)
         all_goals (try (apply d_guardB 24; (case hi => rfl); (case hgd => rfl); (case h1 => rfl); (case h2 => rfl); all_goals (intro h; (try simp only [reduceCtorEq, zzz] at h))))
         all_goals (first | (apply dpa 24; (case hi => rfl); (case hg => rfl); (case hn => rfl); (case hq => kernel_rfl)) | (apply dpn 24; (case hi => rfl); (case hg => rfl); (case hn => rfl); (case hq => kernel_rfl)) | (apply dtg 24; (case hi => rfl); (case hg => rfl); (case hop => ((apply r_load1; rfl; exact Cell.frozen (hel' _ (by omega))))); (case hq => kernel_rfl)) | fail)
         all_goals (try (apply d_guardB 25; (case hi => rfl); (case hgd => rfl); (case h1 => rfl); (case h2 => rfl); all_goals (intro h; (try simp only [reduceCtorEq, zzz] at h))))
         all_goals (first | (apply dpa 25; (case hi => rfl); (case hg => rfl); (case hn => rfl); (case hq => kernel_rfl)) | (apply dpn 25; (case hi => rfl); (case hg => rfl); (case hn => rfl); (case hq => kernel_rfl)) | (apply dtg 25; (case hi => rfl); (case hg => rfl); (case hop => (apply prd; apply p_le <;> rfl)); (case hq => kernel_rfl)) | fail)
         all_goals (try (apply d_guardB 26; (case hi => rfl); (case hgd => rfl); (case h1 => rfl); (case h2 => rfl); all_goals (intro h; (try simp only [reduceCtorEq, zzz] at h))))
         all_goals (first | (apply dpa 26; (case hi => rfl); (case hg => rfl); (case hn => rfl); (case hq => kernel_rfl)) | (apply dtg 26; (case hi => rfl); (case hg => rfl); (case hop => first | (apply prd; apply p_pickT <;> rfl) | (apply prd; apply p_pickF <;> rfl) | fail); (case hq => kernel_rfl)) | fail)
         all_goals (apply dtk 27; (case hi => rfl); (case hop => first | (apply prd; apply p_pickT <;> rfl) | (apply prd; apply p_pickF <;> rfl) | fail); (case hq => kernel_rfl))
         all_goals (apply d_done; (case hr => kernel_rfl))
         repeat' (first | apply v_seq | apply v_region | apply v_nil | apply v_skip | apply v_blk | (apply v_pure; (case hop => first | (apply p_move <;> rfl) | (apply p_assign <;> rfl) | (apply p_add; (case hx => rfl); (case hy => rfl); (case h => omega)) | fail); (case hd => rfl)) | (apply v_condT; (case hc => rfl)) | (apply v_condF; (case hc => rfl)) | (apply v_cond; (case hc => rfl); all_goals (intro h; (try simp only [reduceCtorEq, zzz] at h))) | fail)
         all_goals try
           (refine v_ret [] (outsA1 rfl rfl) (by repeat (exact List.Sublist.refl _)) ?_
            refine ⟨?_, rfl, rfl⟩
            rw [decide_eq_false]
            rintro ⟨_, hm⟩
            obtain ⟨⟨q1, q0⟩, q2, q3⟩ := hm k (by omega)
            have q4 := q0 j (by omega)
            simp only [e3, e4] at *
            omega)
         all_goals
           (refine v_again rfl ⟨rfl, rfl, j + 1, by omega, rfl, fun i h hi => ?_⟩ (by simp [headI]; omega)
            by_cases hik : i = j
            · subst hik; simp only [e3, e4] at *; omega
            · exact hin i h (by omega))
       · refine v_again rfl ⟨rfl, rfl, k + 1, by omega, rfl, fun i h hi => ?_⟩ (by simp [headI]; omega)
         by_cases hik : i = k
         · subst hik
           simp only [e1, e2] at *
           exact ⟨⟨by omega, fun i' h' => hin i' h' (by omega)⟩, by omega, by omega⟩
         · exact hno i h (by omega))
  · refine v_ret [] (outsA1 rfl rfl) (by repeat (exact List.Sublist.refl _)) ?_
    refine ⟨?_, rfl, rfl⟩
    rw [decide_eq_true]
    exact ⟨⟨by omega, by assumption⟩, fun i h => hno i h (by omega)⟩
def placeK (l : List Co) (x : Int) : Nat → Int
  | 0 => -1
  | k + 1 => if (l.getD k (0, [])).1 ≤ x then (k : Int) else placeK l x k
theorem placeK_le (l : List Co) (x : Int) : ∀ k : Nat, -1 ≤ placeK l x k ∧ placeK l x k < k
  | 0 => by simp [placeK]
  | k + 1 => by
    have := placeK_le l x k
    unfold placeK
    split <;> omega
theorem placeK_succ {l : List Co} {x : Int} {k : Nat} (h : k < l.length) : placeK l x (k + 1) = if l[k].1 ≤ x then (k : Int) else placeK l x k := by
  rw [placeK, List.getD_eq_getElem?_getD, List.getElem?_eq_getElem h]; rfl
theorem place_s {G : GH} {l : List Co} {sv : Value} (x : Int) (hs : Cos G sv l) : Con Tryz.prog 140 #[sv, .int .i64 x] G [] (Just (.int .i64 (placeK l x l.length)) G) := by
  obtain ⟨A, c, mA, mc, rfl, hlc, hcm, hsome, hcp, hc0, hc1, hmv, hwf⟩ := coOpen hs
  simp only [maxLen] at hcm
  (refine v_enter Tryz.func140 rfl Tryz.ntmps140 rfl ?_; intro B _)
  repeat' (first | apply v_seq | apply v_region | apply v_nil | apply v_block | (apply v_pure; (case hop => first | (apply p_move <;> rfl) | (apply p_assign <;> rfl) | (apply p_lenSlice <;> rfl) | fail); (case hd => rfl)) | fail)
  refine v_loop [10, 9, 8, 5, 1] (fun us G' μ' => G' = G ∧ μ' = [] ∧ ∃ k, k ≤ l.length ∧ us = [Value.int .i64 (k : Nat), .int .i64 l.length, .slice A l.length c, .int .i64 (placeK l x k), .int .i64 x]) (fun us => l.length - (headI us).toNat) rfl ⟨rfl, rfl, 0, by omega, rfl⟩ ?_
  rintro us G' μ' ⟨rfl, rfl, k, hk, rfl⟩
  repeat' (first | apply v_seq | apply v_region | apply v_nil | apply v_skip | apply v_block | apply v_blk | (apply v_exit; (case hp => rfl)) | (apply v_pure; (case hop => first | (apply p_move <;> rfl) | (apply p_lt <;> rfl) | (apply p_le <;> rfl) | (apply p_assign <;> rfl) | (apply p_fieldAddrB <;> rfl) | (apply p_add; (case hx => rfl); (case hy => rfl); (case h => omega)) | (apply p_indexAddrS; (case hx => rfl); (case hi => rfl); (case h0 => omega); (case h => omega); (case hA => (apply_assumption; omega))) | fail); (case hd => rfl)) | (apply v_cond; (case hc => rfl); all_goals (intro h; (try simp only [reduceCtorEq, zzz] at h))) | (apply v_read; (case hop => (apply r_loadN; rfl; exact CellsAt.frozen (hcp _ (by omega)); rfl)); (case hd => rfl)) | (apply v_read; (case hop => (apply r_load1; rfl; (apply Cell.own; (case h => (repeat (exact mhd _))); rfl))); (case hd => rfl)) | (apply v_alloc; (case hz => rfl); (case hd => rfl); intro b) | (apply v_store; (case hp => rfl); (case hx => rfl); (case hc => rfl); (case hsz => rfl); (case h1 => rfl); (case hb => (repeat (exact mhd _))); (case hfit => exact nle rfl); (case hov => ((repeat (first | with_reducible exact ov_nil | apply ov_cons)); done)); (case hu => repeat (exact Upd.here _ _))) | fail)
  · refine v_drop (ν := []) (by repeat (exact List.nil_sublist _)) ?_
    refine v_again rfl ⟨rfl, rfl, k + 1, by omega, ?_⟩ (by simp [headI]; omega)
    rw [placeK_succ (by omega), if_pos (by assumption)]
    rfl
  · refine v_drop (ν := []) (by repeat (exact List.nil_sublist _)) ?_
    refine v_again rfl ⟨rfl, rfl, k + 1, by omega, ?_⟩ (by simp [headI]; omega)
    rw [placeK_succ (by omega), if_neg (by assumption)]
    rfl
  · refine v_ret [] (outsA1 rfl rfl) (by repeat (exact List.Sublist.refl _)) ?_
    obtain rfl : k = l.length := by omega
    exact ⟨rfl, rfl, rfl⟩
def atK (l : List Co) (x : Int) (k : Nat) : List Int := if placeK l x k < 0 then [] else (l.getD (placeK l x k).toNat (0, [])).2
theorem atK_pos {l : List Co} {x : Int} {k : Nat} (h : k < l.length) (hx : l[k].1 ≤ x) : atK l x (k + 1) = l[k].2 := by
  rw [atK, placeK_succ h, if_pos hx, if_neg (by omega), Int.toNat_natCast, List.getD_eq_getElem?_getD, List.getElem?_eq_getElem h]; rfl
theorem atK_neg {l : List Co} {x : Int} {k : Nat} (h : k < l.length) (hx : ¬ l[k].1 ≤ x) : atK l x (k + 1) = atK l x k := by
  rw [atK, placeK_succ h, if_neg hx]; rfl
theorem clone_s {G : GH} {l : List Int} {sv : Value} (hs : Sl G 1 (IntR .i64) sv l) (hl : l.length ≤ 1048576) : Con Tryz.prog 85 #[sv] G [] (fun r G' μ' => G' = G ∧ Grow 3 1 r l.length (l.map (.int .i64 ·)) μ') := by
  obtain ⟨A, c, rfl, hlc, hcm, hsome, hel, _⟩ := hs.openInt
  simp only [maxLen] at hcm
  (refine v_enter Tryz.func85 rfl Tryz.ntmps85 rfl ?_; intro B _)
  repeat' (first | apply v_seq | apply v_region | apply v_nil | apply v_skip | (apply v_pure; (case hop => first | (apply p_move <;> rfl) | (apply p_assign <;> rfl) | (apply p_eqNilSlice <;> rfl)); (case hd => rfl)) | (apply v_cond; (case hc => rfl); all_goals (intro h; (try simp only [reduceCtorEq, zzz] at h))) | (apply v_buildSlice; (case hz => rfl); (case hi => rfl); (case hv => (simp only [List.map_cons, List.map_nil]; repeat (with_reducible exact evs_nil))); (case hp => (with_reducible exact pk_nil)); (case hb => rfl); (case hd => rfl); intro b) | fail)
  · refine v_ret [] (outsA1 rfl rfl) (by repeat (exact List.Sublist.refl _)) ?_
    have : l = [] := by
      cases l with
      | nil => rfl
      | cons a l => have := hsome (by simp); simp_all
    subst this
    exact ⟨rfl, Grow.nil _ _⟩
  · refine v_append (e := 3) (sz := 1) (zero := .int .i64 0) rfl (by omega) rfl rfl Grow.empty (List.Perm.refl _) (Src.ints hs) (allOne_ints l) (by omega) (by simp only [maxLen]; omega) rfl ?_
    intro v' ν' hg
    repeat' (first | apply v_nil | (apply v_pure; (case hop => (apply p_assign <;> rfl)); (case hd => rfl)) | fail)
    refine v_ret ν' (outsA1 rfl rfl) (by simp) ?_
    rw [Nat.zero_add, List.nil_append] at hg
    exact ⟨rfl, hg⟩
theorem placeK_nonneg {l : List Co} {x : Int} (h : 0 < l.length) (hx : l[0].1 ≤ x) : ∀ k, 0 < k → k ≤ l.length → 0 ≤ placeK l x k
  | 1, _, _ => by rw [placeK_succ h, if_pos hx]; simp
  | k + 2, _, hk => by
    rw [placeK_succ (by omega)]
    split
    · omega
    · exact placeK_nonneg h hx (k + 1) (by omega) (by omega)
noncomputable def atL (l : List Co) (x : Int) : List Int := if ConfOK l ∧ 1 ≤ x then atK l x l.length else []
theorem at_s {G : GH} {l : List Co} {sv : Value} (x : Int) (hs : Cos G sv l) (hbig : ∀ c ∈ l, c.2.length ≤ 1048576) : Con Tryz.prog 79 #[sv, .int .i64 x] G [] (fun r G' μ' => μ' = [] ∧ Sl G' 1 (IntR .i64) r (atL l x)) := by
  obtain ⟨A, c, mA, mc, rfl, hlc, hcm, hsome, hcp, hc0, hc1, hmv, hwf⟩ := coOpen hs
  simp only [maxLen] at hcm
  have hp := placeK_le l x l.length
  have hn := fun (h : 0 < l.length) (hx : l[0].1 ≤ x) => placeK_nonneg h hx l.length h (Nat.le_refl _)
  have ck : ConfOK l → 0 < l.length := fun h => h.1.1
  by_cases hok : ConfOK l
  · obtain ⟨⟨h0, h1⟩, _⟩ := id hok
    have q := check_s hs
    rw [if_pos hok] at q
    (refine v_enter Tryz.func79 rfl Tryz.ntmps79 rfl ?_; intro B _)
    repeat' (first | apply v_seq | apply v_region | apply v_nil | apply v_skip | (apply v_take; (case hg => rfl)) | (apply v_pure; (case hop => first | (apply p_move <;> rfl) | (apply p_nes <;> rfl) | (apply p_lt <;> rfl) | (apply p_assign <;> rfl) | (apply p_pickF <;> rfl) | fail); (case hd => rfl)) | (apply v_cond; (case hc => rfl); all_goals (intro h; (try simp only [reduceCtorEq, zzz] at h))) | (apply v_callJ (hs := q); (case ha => rfl); (case hd => rfl)) | fail)
    · refine v_ret [] (outsA1 rfl rfl) (by repeat (exact List.Sublist.refl _)) ?_
      rw [atL, if_neg (by omega)]
      exact ⟨rfl, Sl.nil⟩
    have hn' := hn h0 (by omega)
    repeat' (first | (apply v_pure; (case hop => first | (apply p_fieldAddr <;> rfl) | (apply p_indexAddrS; (case hx => rfl); (case hi => rfl); (case h0 => omega); (case h => omega); (case hA => (apply_assumption; omega))) | fail); (case hd => rfl)) | (apply v_callJ (hs := place_s x hs); (case ha => rfl); (case hd => rfl)) | (apply v_read; (case hop => (apply r_load1; rfl; exact Cell.frozen (hc1 _ (by omega)))); (case hd => rfl)) | fail)
    refine v_call (μ1 := []) (μ2 := _) rfl (clone_s (hmv _ (by omega)) (hbig _ (List.getElem_mem _))) (List.Perm.refl _) rfl ?_
    rintro r G' μ1 - ⟨rfl, hg⟩
    refine v_freeze (ν := μ1) (μ := []) ?_
    intro G1 hle hG
    repeat' (first | apply v_nil | (apply v_pure; (case hop => (apply p_assign <;> rfl)); (case hd => rfl)) | fail)
    refine v_ret [] (outsA1 rfl rfl) (by repeat (exact List.Sublist.refl _)) ?_
    refine ⟨rfl, ?_⟩
    have hlt : (placeK l x l.length).toNat < l.length := by omega
    obtain ⟨_, _, _, _, _, _, _, hw⟩ := (hmv _ hlt).openInt
    rw [atL, if_pos ⟨hok, by omega⟩, atK, if_neg (by omega), List.getD_eq_getElem?_getD, List.getElem?_eq_getElem hlt]
    exact hg.ints hG hw
  · have q := check_s hs
    rw [if_neg hok] at q
    (refine v_enter Tryz.func79 rfl Tryz.ntmps79 rfl ?_; intro B _)
    repeat' (first | apply v_seq | apply v_region | apply v_nil | (apply v_pass; (case hg => rfl); (case hn => rfl); (case hd => rfl)) | (apply v_pure; (case hop => first | (apply p_move <;> rfl) | (apply p_ne <;> rfl) | (apply p_assign <;> rfl) | (apply p_pickT <;> rfl) | fail); (case hd => rfl)) | (apply v_condT; (case hc => rfl)) | (apply v_guardB; (case h1 => rfl); (case h2 => rfl); all_goals (intro h; (try simp only [reduceCtorEq, zzz] at h); first | (exfalso; omega) | skip)) | (apply v_callJ (hs := q); (case ha => rfl); (case hd => rfl)) | fail)
    refine v_ret [] (outsA1 rfl rfl) (by repeat (exact List.Sublist.refl _)) ?_
    rw [atL, if_neg (fun h => hok h.1)]
    exact ⟨rfl, Sl.nil⟩
end Go.Proofs.YtmdeeokejdkceaaGreatDoor
/-
  The kit's contracts for three functions of slices, laid at this program (printed by a program of ours off the structures' fields).
-/
set_option linter.unusedSimpArgs false
set_option linter.unusedVariables false
namespace Go.Proofs.YtmdeeokejdkceaaGreatDoor
open Go.Shelf Go.Lib Go.Sort Go.RowKit
def laysSearch_ren : Go.Shelf.Ren := ⟨fun | 25 => 303 | 31 => 281 | 32 => 320 | 37 => 229 | n => n, fun | 0 => 0 | 3 => 3 | 4 => 4 | 22 => 49 | 40 => 107 | n => n, fun n => n⟩
theorem laysSearch : Lays2.n25 Tryz.prog laysSearch_ren where
  mixed := by kernel_rfl
  f25 := Tryz.func303.trans (congrArg some (by kernel_rfl))
  f31 := Tryz.func281.trans (congrArg some (by kernel_rfl))
  f32 := Tryz.func320.trans (congrArg some (by kernel_rfl))
  f37 := Tryz.func229.trans (congrArg some (by kernel_rfl))
  t0 := Tryz.underlying0
  a0 := Tryz.isAgg0
  z0 := Tryz.sizeOf0
  v0 := Tryz.zeroValue0
  t3 := Tryz.underlying3
  a3 := Tryz.isAgg3
  z3 := Tryz.sizeOf3
  v3 := Tryz.zeroValue3
  t4 := Tryz.underlying4
  a4 := Tryz.isAgg4
  z4 := Tryz.sizeOf4
  v4 := Tryz.zeroValue4
  t22 := Tryz.underlying49
  a22 := Tryz.isAgg49
  z22 := Tryz.sizeOf49
  v22 := Tryz.zeroValue49
  t40 := Tryz.underlying107
  a40 := Tryz.isAgg107
  z40 := Tryz.sizeOf107
  v40 := Tryz.zeroValue107
def laysDelete_ren : Go.Shelf.Ren := ⟨fun | 23 => 305 | n => n, fun | 0 => 0 | 3 => 3 | 4 => 4 | 22 => 49 | n => n, fun n => n⟩
theorem laysDelete : Lays2.n23 Tryz.prog laysDelete_ren where
  mixed := by kernel_rfl
  f23 := Tryz.func305.trans (congrArg some (by kernel_rfl))
  t0 := Tryz.underlying0
  a0 := Tryz.isAgg0
  z0 := Tryz.sizeOf0
  v0 := Tryz.zeroValue0
  t3 := Tryz.underlying3
  a3 := Tryz.isAgg3
  z3 := Tryz.sizeOf3
  v3 := Tryz.zeroValue3
  t4 := Tryz.underlying4
  a4 := Tryz.isAgg4
  z4 := Tryz.sizeOf4
  v4 := Tryz.zeroValue4
  t22 := Tryz.underlying49
  a22 := Tryz.isAgg49
  z22 := Tryz.sizeOf49
  v22 := Tryz.zeroValue49
  i3 := by kernel_rfl
def laysInsert_ren : Go.Shelf.Ren := ⟨fun | 21 => 304 | 27 => 321 | 28 => 322 | 35 => 333 | 39 => 337 | n => n, fun | 0 => 0 | 3 => 3 | 4 => 4 | 22 => 49 | n => n, fun n => n⟩
theorem laysInsert : Lays2.n21 Tryz.prog laysInsert_ren where
  mixed := by kernel_rfl
  f21 := Tryz.func304.trans (congrArg some (by kernel_rfl))
  f27 := Tryz.func321.trans (congrArg some (by kernel_rfl))
  f28 := Tryz.func322.trans (congrArg some (by kernel_rfl))
  f35 := Tryz.func333.trans (congrArg some (by kernel_rfl))
  f39 := Tryz.func337.trans (congrArg some (by kernel_rfl))
  t0 := Tryz.underlying0
  a0 := Tryz.isAgg0
  z0 := Tryz.sizeOf0
  v0 := Tryz.zeroValue0
  t3 := Tryz.underlying3
  a3 := Tryz.isAgg3
  z3 := Tryz.sizeOf3
  v3 := Tryz.zeroValue3
  t4 := Tryz.underlying4
  a4 := Tryz.isAgg4
  z4 := Tryz.sizeOf4
  v4 := Tryz.zeroValue4
  t22 := Tryz.underlying49
  a22 := Tryz.isAgg49
  z22 := Tryz.sizeOf49
  v22 := Tryz.zeroValue49
  i3 := by kernel_rfl
end Go.Proofs.YtmdeeokejdkceaaGreatDoor
/-
  The three functions of slices, as contracts of ours.
-/
set_option linter.unusedSimpArgs false
set_option linter.unusedVariables false
namespace Go.Proofs.YtmdeeokejdkceaaGreatDoor
open Go.Vx Go.ChangeShapes Go.WideShapes Go.ChangeAt Go.RowKit
attribute [local semireducible] Con
theorem Con.ofCallsM {P : Program} {f : FuncId} {args : Array Value} {G : GH} {μ : OH} {Φ : Value → GH → OH → Prop} (h : ∀ w, Mem G μ w → Calls P f args w fun e w' => ∃ v, e = .returned v ∧ ∃ G' μ', Step G μ w G' μ' w' ∧ Φ v G' μ') : Con P f args G μ Φ := by
  intro w hw
  exact (h w hw).mono fun e w' hq => by
    obtain ⟨v, rfl, hv⟩ := hq
    exact ⟨v, rfl, hv⟩
theorem cell_spot {G : GH} {a : Addr} {v : Value} (h : GH.cell? G a = some v) : a.spot = none := by
  unfold GH.cell? at h
  split at h
  · split at h
    · cases h
    · rename_i h'
      cases hs : a.spot with
      | none => rfl
      | some s => rw [hs] at h'; simp at h'
  · cases h
theorem search_s {G : GH} {l : List Int} {sv : Value} (x : Int) (hs : Sl G 1 (IntR .i64) sv l) (hl : 0 < l.length) (hbig : l.length ≤ 1048576) (hsort : l.Pairwise (· ≤ ·)) :
    Con Tryz.prog 303 #[sv, .int .i64 x] G [] (Just (.tuple #[.int .i64 (l.countP (· < x) : Nat), .bool (l.contains x)]) G) := by
  obtain ⟨A, c, rfl, hlc, hcm, hsome, hel, _⟩ := hs.openInt
  refine Con.ofCallsM fun w hw => ?_
  have hA := hsome hl
  cases A with
  | none => cases hA
  | some a =>
    obtain ⟨b, off, spot⟩ := a
    have h0 := cell_spot (hel 0 hl)
    have : spot = none := by simpa [adr, Addr.add] using h0
    subst this
    refine (Any.slices_BinarySearch_int laysSearch b off l.length c l x w (Nat.le_refl _) (by omega) (fun j hj => ?_) (by rw [List.take_length]; exact hsort)).mono ?_
    · have := hel j hj
      rw [Nat.mul_one] at this
      have h2 := (Cell.frozen (μ := []) this) w hw.sees
      rw [show (adr (some ⟨b, off, none⟩)).add j = (⟨b, off + j, none⟩ : Addr) from add_mk b off j] at h2
      rw [h2, List.getD_eq_getElem?_getD, List.getElem?_eq_getElem hj]; rfl
    · rintro e w' ⟨rfl, q, rfl⟩
      rw [List.take_length]
      exact ⟨_, rfl, G, [], Step.drew hw q, rfl, rfl, rfl⟩
section
variable {G : GH} {μ μ' : OH} {w : World} {b : Nat} {e : TypeId}
theorem Step.map {vs vs' : List Value} {f : Array Value → Array Value} (hw : Mem G μ w) (hb : Has μ b vs e) (hf : f vs.toArray = vs'.toArray) (hu : Upd b (.cells vs'.toArray e (0, 0)) μ μ') : Step G μ w G μ' (Go.Sort.mapBlock w b f) := by
  have hg := hw.own _ _ hb
  refine Step.upd hw hu rfl rfl rfl (by simp [Go.Sort.mapBlock]) ?_ (fun c hc => ?_)
  · simp only [Go.Sort.mapBlock, Array.getElem?_modify, if_true, hg, Option.map_some, Go.Sort.onCells, hf]
  · simp only [Go.Sort.mapBlock, Array.getElem?_modify]
    rw [if_neg (fun h => hc h.symm)]
theorem over_cons {vs : List Value} {i : Nat} {v : Value} {r : List Value} (h : i < vs.length) : over (vs.set i v) (i + 1) r = over vs i (v :: r) := by
  have t1 : (vs.set i v).take (i + 1) = vs.take i ++ [v] := by
    rw [List.take_add_one, List.getElem?_set_self h, List.take_set, List.set_eq_of_length_le (by rw [List.length_take]; omega)]; rfl
  have t2 : (vs.set i v).drop (i + 1 + r.length) = vs.drop (i + 1 + r.length) := by
    rw [List.drop_set, if_pos (by omega)]
  simp only [over, t1, t2, List.length_cons]
  rw [show i + 1 + r.length = i + (r.length + 1) by omega]
  simp
theorem Step.cells : ∀ (us : List Value) {vs : List Value} {o : Nat} {ν : OH} {w : World}, Mem G ((b, .cells vs.toArray e (0, 0)) :: ν) w → o + us.length ≤ vs.length →
    Step G ((b, .cells vs.toArray e (0, 0)) :: ν) w G ((b, .cells (over vs o us).toArray e (0, 0)) :: ν) (w.setCells b o us)
  | [], vs, o, ν, w, hw, _ => by simpa [over, World.setCells] using Step.refl hw
  | u :: us, vs, o, ν, w, hw, h => by
    rw [List.length_cons] at h
    have h1 : Step G ((b, .cells vs.toArray e (0, 0)) :: ν) w G ((b, .cells (vs.set o u).toArray e (0, 0)) :: ν) (w.setCell ⟨b, o, none⟩ u) := by
      rw [Go.Sort.setCell_eq]
      exact Step.map hw (List.Mem.head _) (by simp) (.here _ _)
    have h2 := Step.cells us (vs := vs.set o u) (o := o + 1) h1.mem (by simp; omega)
    rw [over_cons (by omega)] at h2
    exact h1.trans h2
end
theorem over_atM {a m r us : List Value} (h : us.length = m.length) : over (a ++ m ++ r) a.length us = a ++ us ++ r := by
  simp only [over, h, List.append_assoc, List.take_left, ← List.drop_drop, List.drop_left]
theorem cellOwn {μ : OH} {G : GH} {w : World} {b : Nat} {e : TypeId} {vs : List Value} (hw : Mem G μ w) (hb : Has μ b vs e) {j : Nat} {v : Value} (hv : vs[j]? = some v) : w.cell? ⟨b, 0 + j, none⟩ = some v := by
  rw [Nat.zero_add]
  exact Cell.own hb hv w hw.sees
theorem frozenOwn {μ : OH} {G : GH} {w : World} {b : Nat} {e : TypeId} {vs : List Value} (hw : Mem G μ w) (hb : Has μ b vs e) (j : Nat) : w.frozen? ⟨b, j, none⟩ = false := by
  have := hw.own _ _ hb
  simp [World.frozen?, this]
theorem shapeOwn {μ : OH} {G : GH} {w : World} {b : Nat} {e : TypeId} {vs : List Value} (hw : Mem G μ w) (hb : Has μ b vs e) : w.shape? b = some (e, vs.length) := by
  have := hw.own _ _ hb
  simp [World.shape?, this]
theorem one_ints {k : IntKind} (l : List Int) : ∀ v ∈ l.map (Value.int k ·), v.oneCell' = true := fun v hv => List.all_eq_true.1 (allOne_ints l) v hv
theorem over_at2 {a m r us : List Value} (h : us.length = m.length) : over (a ++ (m ++ r)) a.length us = a ++ us ++ r := by
  rw [← List.append_assoc]; exact over_atM h
theorem growOf {e : TypeId} {b n cap : Nat} {xs cells : List Value} (hx : xs.length = n) (hcells : ∃ spare, cells = xs ++ spare) (hl : cells.length = cap) (hn : n ≤ cap) (hm : cap ≤ maxLen) : Grow e 1 (.slice (some ⟨b, 0, none⟩) n cap) n xs [(b, .cells cells.toArray e (0, 0))] := by
  obtain ⟨spare, rfl⟩ := hcells
  exact ⟨by omega, .inr ⟨b, cap, spare, rfl, rfl, hn, hm, by omega⟩⟩
theorem shift_cells {cs spare : List Value} {i : Nat} {x : Value} (hi : i ≤ cs.length) (hs : 0 < spare.length) : ∃ r, over (over (cs ++ spare) (i + 1) (cs.drop i)) i [x] = cs.take i ++ [x] ++ cs.drop i ++ r := by
  have hlt : 0 < (cs.drop i ++ spare).length := by simp; omega
  obtain ⟨t0, t, ht⟩ : ∃ t0 t, cs.drop i ++ spare = t0 :: t := by
    cases h : cs.drop i ++ spare with
    | nil => rw [h] at hlt; simp at hlt
    | cons a b => exact ⟨a, b, rfl⟩
  have htl : (cs.drop i).length ≤ t.length := by
    have := congrArg List.length ht
    simp at this ⊢
    omega
  have e0 : cs ++ spare = (cs.take i ++ [t0]) ++ t.take (cs.drop i).length ++ t.drop (cs.drop i).length := by
    rw [List.append_assoc, List.take_append_drop, List.append_assoc, List.singleton_append, ← ht, ← List.append_assoc, List.take_append_drop]
  have hi1 : (cs.take i ++ [t0]).length = i + 1 := by simp; omega
  have hi2 : (cs.take i).length = i := by simp; omega
  refine ⟨t.drop (cs.drop i).length, ?_⟩
  rw [e0, ← hi1, over_atM (by rw [List.length_take]; omega)]
  have e1 : cs.take i ++ [t0] ++ cs.drop i ++ t.drop (cs.drop i).length = cs.take i ++ [t0] ++ (cs.drop i ++ t.drop (cs.drop i).length) := by simp
  rw [e1]
  conv => lhs; rw [show over (cs.take i ++ [t0] ++ (cs.drop i ++ t.drop (cs.drop i).length)) i [x] = over (cs.take i ++ [t0] ++ (cs.drop i ++ t.drop (cs.drop i).length)) (cs.take i).length [x] by rw [hi2]]
  rw [over_atM (m := [t0]) (us := [x]) rfl]
  simp
theorem end_cells {cs spare : List Value} {x : Value} (hs : 0 < spare.length) : ∃ r, over (cs ++ spare) cs.length [x] = cs ++ [x] ++ r := by
  match spare, hs with
  | y :: r, _ =>
    refine ⟨r, ?_⟩
    have : cs ++ y :: r = cs ++ [y] ++ r := by simp
    rw [this, over_atM (m := [y]) (us := [x]) rfl]
theorem insert_s {G : GH} {l : List Int} {i : Nat} {x : Int} {b vb cap : Nat} {spare : List Value} (hl : 0 < l.length) (hbig : l.length ≤ 1048576) (hi : i ≤ l.length) (hc : l.length ≤ cap) (hm : cap ≤ maxLen) (hcap : (l.map (Value.int .i64 ·) ++ spare).length = cap) :
    Con Tryz.prog 304 #[.slice (some ⟨b, 0, none⟩) l.length cap, .int .i64 i, .slice (some ⟨vb, 0, none⟩) 1 1] G [(b, .cells (l.map (Value.int .i64 ·) ++ spare).toArray 3 (0, 0)), (vb, .cells [Value.int .i64 x].toArray 3 (0, 0))]
      (fun r G' μ' => G' = G ∧ Grow 3 1 r (l.length + 1) ((l.take i ++ [x] ++ l.drop i).map (Value.int .i64 ·)) μ') := by
  refine Con.ofCallsM fun w hw => ?_
  have hne : vb ≠ b := by
    have := hw.nodup
    simp at this
    exact fun e => this e.symm
  simp only [maxLen] at hm
  have h1 : Has [(b, .cells (l.map (Value.int .i64 ·) ++ spare).toArray 3 (0, 0)), (vb, .cells [Value.int .i64 x].toArray 3 (0, 0))] b (l.map (Value.int .i64 ·) ++ spare) 3 := List.Mem.head _
  have h2 : Has [(b, .cells (l.map (Value.int .i64 ·) ++ spare).toArray 3 (0, 0)), (vb, .cells [Value.int .i64 x].toArray 3 (0, 0))] vb [Value.int .i64 x] 3 := List.Mem.tail _ (List.Mem.head _)
  have hcl : (l.map (Value.int .i64 ·)).length = l.length := by simp
  have hsl : spare.length = cap - l.length := by rw [List.length_append, hcl] at hcap; omega
  have hcs : ∀ j v, (l.map (Value.int .i64 ·))[j]? = some v → w.cell? ⟨b, 0 + j, none⟩ = some v := fun j v hv => cellOwn hw h1 (by rw [List.getElem?_append_left (List.getElem?_eq_some_iff.1 hv).1]; exact hv)
  have hvs : ∀ j v, [Value.int .i64 x][j]? = some v → w.cell? ⟨vb, 0 + j, none⟩ = some v := fun j v hv => cellOwn hw h2 hv
  have hsp : ∀ j, j < cap → (w.cell? ⟨b, 0 + j, none⟩).isSome = true := fun j hj => by
    have hlt : j < (l.map (Value.int .i64 ·) ++ spare).length := by rw [hcap]; exact hj
    rw [cellOwn hw h1 (List.getElem?_eq_getElem hlt)]; rfl
  have h1v : ∀ v ∈ [Value.int .i64 x], v.oneCell' = true := by intro v hv; simp at hv; subst hv; rfl
  have hlen : (l.take i ++ [x] ++ l.drop i).length = l.length + 1 := by simp; omega
  by_cases hroom : l.length + 1 ≤ cap
  · by_cases hin : i < l.length
    · refine (Any2.slices_Insert_int_shift laysInsert b 0 l.length cap i vb 0 1 1 (l.map (Value.int .i64 ·)) [Value.int .i64 x] w hin (by omega) hroom hm hne hcl rfl hcs (fun j hj => hsp j (by omega)) (fun j _ => frozenOwn hw h1 _) hvs (one_ints l) h1v _ _ _ _ (shapeOwn hw h2) (shapeOwn hw h1) (by rw [hcap]; omega) (frozenOwn hw h2 _) (frozenOwn hw h2 _)).mono ?_
      rintro e w' ⟨rfl, rfl⟩
      obtain ⟨r, hr⟩ := shift_cells (cs := l.map (Value.int .i64 ·)) (spare := spare) (i := i) (x := .int .i64 x) (by omega) (by omega)
      have st0 := Step.drew hw 1
      have st1 := Step.cells ((l.map (Value.int .i64 ·)).drop i) (o := 0 + (i + 1)) st0.mem (by simp; omega)
      have st2 := Step.cells [Value.int .i64 x] (o := 0 + i) st1.mem (by rw [over_length (by simp; omega), hcap]; simp; omega)
      rw [Nat.zero_add, Nat.zero_add, hr] at st2
      refine ⟨_, rfl, G, _, ((st0.trans st1).trans (by rw [Nat.zero_add, Nat.zero_add]; rw [Nat.zero_add] at st1; exact st2)).drop (List.Sublist.cons_cons _ (List.nil_sublist _)), rfl, growOf (by simp; omega) ⟨r, by simp [List.map_take, List.map_drop]⟩ ?_ hroom hm⟩
      rw [← hr, over_length (by rw [over_length (by simp; omega)]; simp; omega), over_length (by simp; omega), hcap]
    · obtain rfl : i = l.length := by omega
      refine (Any2.slices_Insert_int_end_room laysInsert b 0 l.length cap vb 0 1 1 [Value.int .i64 x] w (by omega) hroom hm rfl (fun j hj => by rw [Nat.add_assoc]; exact hsp _ (by omega)) (fun j _ => frozenOwn hw h1 _) hvs h1v).mono ?_
      rintro e w' ⟨rfl, rfl⟩
      obtain ⟨r, hr⟩ := end_cells (cs := l.map (Value.int .i64 ·)) (spare := spare) (x := .int .i64 x) (by omega)
      have st1 := Step.cells [Value.int .i64 x] (o := 0 + l.length) hw (by simp; omega)
      rw [hcl] at hr
      have hr' : over (l.map (Value.int .i64 ·) ++ spare) (0 + l.length) [Value.int .i64 x] = l.map (Value.int .i64 ·) ++ [Value.int .i64 x] ++ r := by rw [Nat.zero_add]; exact hr
      rw [hr'] at st1
      refine ⟨_, rfl, G, _, st1.drop (List.Sublist.cons_cons _ (List.nil_sublist _)), rfl, growOf (by simp) ⟨r, by simp⟩ ?_ hroom hm⟩
      rw [← hr', over_length (by simp; omega), hcap]
  · by_cases hin : i < l.length
    · refine (Any2.slices_Insert_int_grow laysInsert b 0 l.length cap i vb 0 1 1 (l.map (Value.int .i64 ·)) [Value.int .i64 x] w hin (by omega) hc (by omega) (by omega) hcl rfl hcs hvs (one_ints l) h1v).mono ?_
      rintro e w' ⟨rfl, rfl⟩
      have hge := grownCap_ge w (l.length + 1) cap 3
      have hle := grownCap_le_maxLen w (l.length + 1) cap 3 (by simp only [maxLen]; omega)
      generalize hK : (Builtin.zeroCells (Value.int .i64 0).cells (grownCap w (l.length + 1) cap (laysInsert_ren.t 3) - (l.length + 1))) = K
      have hKl : K.toList.length = grownCap w (l.length + 1) cap 3 - (l.length + 1) := by
        rw [← hK, show laysInsert_ren.t 3 = 3 from rfl]
        simp [size_zeroCells, Value.cells]
      generalize hZ : (Builtin.zeroCells (Value.int .i64 0).cells (l.length + 1 - i)) = Z
      have hZl : Z.toList.length = l.length + 1 - i := by
        rw [← hZ]
        simp [size_zeroCells, Value.cells]
      obtain ⟨z0, Z', hZ'⟩ : ∃ z0 Z', Z.toList = z0 :: Z' := by
        cases h : Z.toList with
        | nil => rw [h] at hZl; simp at hZl; omega
        | cons a b => exact ⟨a, b, rfl⟩
      have hZl' : Z'.length = l.length - i := by rw [hZ', List.length_cons] at hZl; omega
      have hobj : Obj.cells (((l.map (Value.int .i64 ·)).take i).toArray ++ Z ++ K) (laysInsert_ren.t 3) = Obj.cells ((l.map (Value.int .i64 ·)).take i ++ [z0] ++ (Z' ++ K.toList)).toArray 3 (0, 0) := by
        rw [show laysInsert_ren.t 3 = 3 from rfl]
        congr 1
        apply Array.ext'
        simp [hZ']
      rw [hobj]
      have st1 := (Step.alloc hw (.cells ((l.map (Value.int .i64 ·)).take i ++ [z0] ++ (Z' ++ K.toList)).toArray 3 (0, 0))).drop (List.Sublist.cons_cons _ (List.nil_sublist _))
      have st2 := Step.drew st1.mem 1
      have hti : ((l.map (Value.int .i64 ·)).take i).length = i := by simp; omega
      have st3 := Step.cells [Value.int .i64 x] (o := ((l.map (Value.int .i64 ·)).take i).length) st2.mem (by simp)
      rw [over_atM (m := [z0]) (us := [Value.int .i64 x]) rfl] at st3
      have st4 := Step.drew st3.mem 1
      have st5 := Step.cells ((l.map (Value.int .i64 ·)).drop i) (o := ((l.map (Value.int .i64 ·)).take i ++ [Value.int .i64 x]).length) st4.mem (by simp; omega)
      rw [over_at2 (m := Z') (by simp; omega)] at st5
      have st := ((((st1.trans st2).trans st3).trans st4).trans st5)
      rw [hti, List.length_append, hti] at st
      refine ⟨_, rfl, G, _, st, rfl, growOf (by simp; omega) ⟨K.toList, by simp [List.map_take, List.map_drop]⟩ ?_ hge hle⟩
      rw [List.length_append, hKl, show laysInsert_ren.t 3 = 3 from rfl]
      simp
      omega
    · obtain rfl : i = l.length := by omega
      refine (Any2.slices_Insert_int_end_grow laysInsert (some ⟨b, 0, none⟩) l.length cap vb 0 1 1 (l.map (Value.int .i64 ·)) [Value.int .i64 x] w (by omega) hc (by omega) (by omega) hcl rfl (by intro h; cases h) (by rintro a ⟨rfl⟩ j v hv; rw [add_mk]; exact hcs j v hv) hvs h1v).mono ?_
      rintro e w' ⟨rfl, rfl⟩
      have hge := grownCap_ge w (l.length + 1) cap 3
      have hle := grownCap_le_maxLen w (l.length + 1) cap 3 (by simp only [maxLen]; omega)
      have st0 := Step.drew hw 1
      have st1 := Step.alloc st0.mem (.cells (l.map (Value.int .i64 ·) ++ [Value.int .i64 x] ++ (Builtin.zeroCells (Value.int .i64 0).cells (grownCap w (l.length + 1) cap 3 - (l.length + 1))).toList).toArray 3 (0, 0))
      have hobj : Obj.cells (l.map (Value.int .i64 ·) ++ [Value.int .i64 x] ++ (Builtin.zeroCells (Value.int .i64 0).cells (grownCap w (l.length + 1) cap 3 - (l.length + 1))).toList).toArray 3 (0, 0) = Obj.cells ((l.map (Value.int .i64 ·) ++ [Value.int .i64 x]).toArray ++ Builtin.zeroCells (Value.int .i64 0).cells (grownCap w (l.length + 1) cap 3 - (l.length + 1))) 3 (0, 0) := by simp
      have st2 := (st0.trans st1).drop (List.Sublist.cons_cons _ (List.nil_sublist _))
      refine ⟨_, rfl, G, [(w.heap.size, .cells (l.map (Value.int .i64 ·) ++ [Value.int .i64 x] ++ (Builtin.zeroCells (Value.int .i64 0).cells (grownCap w (l.length + 1) cap 3 - (l.length + 1))).toList).toArray 3 (0, 0))], ?_, rfl, growOf (by simp) ⟨_, by rw [List.take_length, List.drop_length]; simp; rfl⟩ ?_ hge hle⟩
      · have st3 := st2
        conv at st3 => arg 6; rw [hobj]
        exact st3
      · rw [show laysInsert_ren.t 3 = 3 from rfl]
        simp [size_zeroCells, Value.cells]
        omega
theorem putCells_list {cs spare : List Value} {d : List Int} (h : cs.length = d.length) : Go.Sort.putCells (Value.int .i64) 0 d.toArray (cs ++ spare).toArray = (d.map (Value.int .i64 ·) ++ spare).toArray := by
  apply Array.ext_getElem?
  intro k
  simp only [Go.Sort.putCells, Array.getElem?_mapIdx, List.getElem?_toArray]
  by_cases hk : k < d.length
  · rw [List.getElem?_append_left (by omega), List.getElem?_append_left (by simpa using hk), List.getElem?_eq_getElem (by omega)]
    simp [hk]
  · rw [List.getElem?_append_right (by omega), List.getElem?_append_right (by simp; omega)]
    simp only [List.length_map, h]
    cases hs : spare[k - d.length]? with
    | none => simp
    | some v => simp [hk]
theorem delete_s {G : GH} {l : List Int} {i : Nat} {b cap : Nat} {spare : List Value} (hi : i < l.length) (hc : l.length ≤ cap) (hm : cap ≤ maxLen) (hcap : (l.map (Value.int .i64 ·) ++ spare).length = cap) :
    Con Tryz.prog 305 #[.slice (some ⟨b, 0, none⟩) l.length cap, .int .i64 i, .int .i64 ((i + 1 : Nat) : Int)] G [(b, .cells (l.map (Value.int .i64 ·) ++ spare).toArray 3 (0, 0))]
      (fun r G' μ' => G' = G ∧ Grow 3 1 r (l.length - 1) ((l.take i ++ l.drop (i + 1)).map (Value.int .i64 ·)) μ') := by
  refine Con.ofCallsM fun w hw => ?_
  have hm' := hm
  simp only [maxLen] at hm'
  have h1 : Has [(b, .cells (l.map (Value.int .i64 ·) ++ spare).toArray 3 (0, 0))] b (l.map (Value.int .i64 ·) ++ spare) 3 := List.Mem.head _
  refine (Any.slices_Delete_int laysDelete b 0 cap i (i + 1) l w (fun j hj => ⟨?_, frozenOwn hw h1 _⟩) hc hm' (by omega) (by omega)).mono ?_
  · have hj' : j < l.length := by simpa using hj
    rw [cellOwn hw h1 (v := .int .i64 l[j]) (by rw [List.getElem?_append_left (by simpa using hj'), List.getElem?_map, List.getElem?_eq_getElem hj']; rfl)]
    simp [hj']
  · rintro e w' ⟨rfl, q, rfl⟩
    have st0 := Step.drew hw q
    have hdl : (l.take i ++ l.drop (i + 1) ++ List.replicate (i + 1 - i) 0).length = l.length := by simp; omega
    have st1 : Step G _ _ G [(b, .cells ((l.take i ++ l.drop (i + 1) ++ List.replicate (i + 1 - i) 0).map (Value.int .i64 ·) ++ spare).toArray 3 (0, 0))] _ := Step.map (f := Go.Sort.putCells (Value.int .i64) 0 (l.take i ++ l.drop (i + 1) ++ List.replicate (i + 1 - i) 0).toArray) st0.mem h1 (putCells_list (by rw [hdl]; simp)) (.here _ _)
    refine ⟨_, rfl, G, _, st0.trans st1, rfl, ?_⟩
    rw [show i + 1 - i = 1 by omega]
    refine growOf (by simp; omega) ⟨Value.int .i64 0 :: spare, by simp⟩ ?_ (by omega) hm
    rw [List.length_append, List.length_map] at hcap ⊢
    simp
    omega
end Go.Proofs.YtmdeeokejdkceaaGreatDoor
/-
  conf (layer 11), the fourth part: members with a change.
-/
set_option linter.unusedSimpArgs false
set_option linter.unusedVariables false
namespace Go.Proofs.YtmdeeokejdkceaaGreatDoor
open Go.Vx Go.ChangeShapes Go.WideShapes Go.ChangeAt Go.RowKit
def changedL (l : List Int) (kind n : Int) : List Int :=
  if kind = 7 ∧ l.contains n = false ∧ 1 ≤ n ∧ n ≤ 9 then l.take (l.countP (· < n)) ++ [n] ++ l.drop (l.countP (· < n))
  else if kind = 8 ∧ l.contains n = true ∧ 1 < l.length then l.take (l.countP (· < n)) ++ l.drop (l.countP (· < n) + 1) else []
theorem MemOK.sorted {l : List Int} (h : MemOK l) : l.Pairwise (· < ·) := by
  rw [List.pairwise_iff_getElem]
  obtain ⟨_, h⟩ := h
  have key : ∀ (d i : Nat) (hi : i + d + 1 < l.length), l[i] < l[i + d + 1] := by
    intro d
    induction d with
    | zero =>
      intro i hi
      have := (h (i + 1) (by omega)).2.2 (by omega)
      simpa using this
    | succ d ih =>
      intro i hi
      have h1 := ih i (by omega)
      have h2 := (h (i + (d + 1) + 1) hi).2.2 (by omega)
      have h3 : l[i + (d + 1) + 1 - 1] = l[i + d + 1] := by congr 1
      rw [h3] at h2
      omega
  intro i j hi hj hij
  have := key (j - i - 1) i (by omega)
  have h3 : l[i + (j - i - 1) + 1]'(by omega) = l[j] := by congr 1; omega
  omega
theorem MemOK.weak {l : List Int} (h : MemOK l) : l.Pairwise (· ≤ ·) := h.sorted.imp fun h => Int.le_of_lt h
theorem countP_lt {l : List Int} {n : Int} (h : l.contains n = true) : l.countP (· < n) < l.length := by
  have h1 : n ∈ l := by simpa using h
  rw [Nat.lt_iff_le_and_ne]
  refine ⟨List.countP_le_length, fun e => ?_⟩
  have := List.countP_eq_length.1 e n h1
  simp at this
theorem changed_s {G : GH} {l : List Int} {sv : Value} (kind n : Int) (hs : Sl G 1 (IntR .i64) sv l) (hok : MemOK l) (hbig : l.length ≤ 1048000) (hn : (Lit.int .i64 n).wf = true) :
    Con Tryz.prog 270 #[sv, .int .i64 kind, .int .i64 n] G [] (fun r G' μ' => μ' = [] ∧ ∃ v, r = .tuple #[v, .bool (decide (0 < (changedL l kind n).length))] ∧ Sl G' 1 (IntR .i64) v (changedL l kind n)) := by
  have hsearch := search_s n hs hok.1 (by omega) hok.weak
  obtain ⟨A, c, rfl, hlc, hcm, hsome, hel, hwf⟩ := hs.openInt
  simp only [maxLen] at hcm
  (refine v_enter Tryz.func270 rfl Tryz.ntmps270 rfl ?_; intro B _)
  repeat' (first | apply v_seq | apply v_region | apply v_nil | apply v_skip | apply v_block | apply v_blk | (apply v_take; (case hg => rfl)) | (apply v_pass; (case hg => rfl); (case hn => rfl); (case hd => rfl)) | (apply v_pure; (case hop => first | (apply p_move <;> rfl) | (apply p_eq <;> rfl) | (apply p_gt <;> rfl) | (apply p_le <;> rfl) | (apply p_ge <;> rfl) | (apply p_assign <;> rfl) | (apply p_pickT <;> rfl) | (apply p_pickF <;> rfl) | (apply p_not <;> rfl) | (apply p_lenSlice <;> rfl) | (apply p_extract0 <;> rfl) | (apply p_extract1 <;> rfl) | fail); (case hd => rfl)) | (apply v_condF; (case hc => rfl)) | (apply v_cond; (case hc => rfl); all_goals (intro h; (try simp only [reduceCtorEq, zzz] at h))) | (apply v_guardB; (case h1 => rfl); (case h2 => rfl); all_goals (intro h; (try simp only [reduceCtorEq, zzz] at h); first | (exfalso; omega) | skip)) | (apply v_callJ (hs := hsearch); (case ha => rfl); (case hd => rfl)) | fail)
  all_goals try
    (refine v_ret [] (outsA2 rfl rfl rfl) (by repeat (exact List.Sublist.refl _)) ?_
     have e : changedL l kind n = [] := by
       unfold changedL
       rw [if_neg, if_neg]
       · rintro ⟨h1, h2, h3⟩
         first | omega | simp_all
       · rintro ⟨h1, h2, h3⟩
         first | omega | simp_all
     rw [e]
     exact ⟨rfl, _, rfl, Sl.nil⟩)
  · have e : changedL l kind n = l.take (l.countP (· < n)) ++ [n] ++ l.drop (l.countP (· < n)) := by
      unfold changedL
      rw [if_pos]
      exact ⟨by assumption, by assumption, by omega, by omega⟩
    refine v_call (μ1 := []) (μ2 := _) rfl (clone_s hs (by omega)) (List.Perm.refl _) rfl ?_
    rintro r G' μ1 - ⟨rfl, hlen, ⟨-, h0, -⟩ | ⟨b, cap, spare, rfl, rfl, h1, h2, h3⟩⟩
    · have := hok.1; omega
    have hcP : l.countP (· < n) ≤ l.length := List.countP_le_length
    repeat' (first | (apply v_pure; (case hop => (apply p_move <;> rfl)); (case hd => rfl)) | (apply v_buildSlice; (case hz => rfl); (case hi => rfl); (case hv => (simp only [List.map_cons, List.map_nil]; repeat (first | with_reducible exact evs_nil | (apply evs_cons; (case h1 => rfl))))); (case hp => (apply pk_cons; (case hc => rfl); (case hs => rfl); (case h => (with_reducible exact pk_nil)); (case he => ((repeat (first | with_reducible exact ap_nil | apply ap_cons)); done)))); (case hb => rfl); (case hd => rfl); intro b) | fail)
    refine v_call (μ2 := []) rfl (insert_s (l := l) (i := l.countP (· < n)) (x := n) (spare := spare) hok.1 (by omega) hcP h1 h2 (by rw [h3]; omega)) (by rw [List.append_nil]; exact List.Perm.swap _ _ _) rfl ?_
    rintro r G'' μ1 - ⟨rfl, hg⟩
    refine v_freeze (ν := μ1) (μ := []) ?_
    intro G1 hle hG
    repeat' (first | apply v_nil | (apply v_pure; (case hop => (apply p_assign <;> rfl)); (case hd => rfl)) | fail)
    refine v_ret [] (outsA2 rfl rfl rfl) (by repeat (exact List.Sublist.refl _)) ?_
    rw [e]
    refine ⟨rfl, _, ?_, Grow.ints (l := l.take (l.countP (· < n)) ++ [n] ++ l.drop (l.countP (· < n))) (by
      have : (l.take (l.countP (· < n)) ++ [n] ++ l.drop (l.countP (· < n))).length = l.length + 1 := by simp; omega
      rw [this]; exact hg) hG ?_⟩
    · rw [decide_eq_true (by simp; omega)]
    · intro x hx
      simp only [List.mem_append, List.mem_singleton] at hx
      rcases hx with (hx | hx) | hx
      · exact hwf x (List.mem_of_mem_take hx)
      · rw [hx]; exact hn
      · exact hwf x (List.mem_of_mem_drop hx)
  · have e : changedL l kind n = l.take (l.countP (· < n)) ++ l.drop (l.countP (· < n) + 1) := by
      unfold changedL
      rw [if_neg (by rintro ⟨h1, _⟩; omega), if_pos]
      exact ⟨by assumption, by assumption, by omega⟩
    refine v_call (μ1 := []) (μ2 := _) rfl (clone_s hs (by omega)) (List.Perm.refl _) rfl ?_
    rintro r G' μ1 - ⟨rfl, hlen, ⟨-, h0, -⟩ | ⟨b, cap, spare, rfl, rfl, h1, h2, h3⟩⟩
    · have := hok.1; omega
    have hcP : l.countP (· < n) < l.length := countP_lt (by assumption)
    have hn1 : 1 < l.length := by omega
    repeat' (first | (apply v_pure; (case hop => first | (apply p_move <;> rfl) | (apply p_add; (case hx => rfl); (case hy => rfl); (case h => omega)) | fail); (case hd => rfl)) | fail)
    refine v_call (μ2 := []) rfl (delete_s (l := l) (i := l.countP (· < n)) (spare := spare) hcP h1 h2 (by rw [h3]; omega)) (List.Perm.refl _) rfl ?_
    rintro r G'' μ1 - ⟨rfl, hg⟩
    refine v_freeze (ν := μ1) (μ := []) ?_
    intro G1 hle hG
    repeat' (first | apply v_nil | (apply v_pure; (case hop => (apply p_assign <;> rfl)); (case hd => rfl)) | fail)
    refine v_ret [] (outsA2 rfl rfl rfl) (by repeat (exact List.Sublist.refl _)) ?_
    rw [e]
    refine ⟨rfl, _, ?_, Grow.ints (l := l.take (l.countP (· < n)) ++ l.drop (l.countP (· < n) + 1)) (by
      have : (l.take (l.countP (· < n)) ++ l.drop (l.countP (· < n) + 1)).length = l.length - 1 := by simp; omega
      rw [this]; exact hg) hG ?_⟩
    · rw [decide_eq_true (by simp; omega)]
    · intro x hx
      simp only [List.mem_append] at hx
      rcases hx with hx | hx
      · exact hwf x (List.mem_of_mem_take hx)
      · exact hwf x (List.mem_of_mem_drop hx)
end Go.Proofs.YtmdeeokejdkceaaGreatDoor
