/-
  The reference 30: Apply.
-/
import Derived.Test.YtmdeeokejdkceaaGreatDoorM6
import Derived.Test.YtmdeeokejdkceaaGreatDoorM4
import Derived.Lib.LaidU8T
import Derived.MakeChecks
import Derived.Test.YtmdeeokejdkceaaGreatDoorRows
import Derived.Test.YtmdeeokejdkceaaGreatDoorM1
import Derived.Test.YtmdeeokejdkceaaGreatDoorChecked
import Derived.JoinedOf
import Derived.SevenTiedAt
import Derived.LaidMore
import Derived.Lay
import Derived.Test.YtmdeeokejdkceaaGreatDoorTie
import Derived.Test.YtmdeeokejdkceaaGreatDoorCards
import Derived.Stop.Joined
set_option linter.unusedSimpArgs false
set_option linter.unusedVariables false
namespace Go.Proofs.YtmdeeokejdkceaaGreatDoor
open Go.Vx Go.ChangeShapes Go.WideShapes Go.ChangeAt Go.RowKit
set_option maxHeartbeats 1000000 in
theorem refWApply_s {G : GH} {m : Im} {v : Value} (hm : ImV G m v) (hok : ImP m) (hx : m.index < 4294967292) (hco : CoZ m.confs) (c : Cm) (hc : cmdI c = 0) (hcok : c.ok) (hkz : c.key.size ≤ 200) :
    Con Tryz.prog 35 #[v, .agg c.cells.toArray] G [] (fun r G' μ' => μ' = [] ∧ ∃ v', r = .tuple [v', .agg (applyS m.st c).2.1.cells.toArray].toArray ∧ ImV G' (nextI m c) v') := by
  have hnx : nextI m c = ⟨m.index + 1, activeI m c, trimL (confsI m c) (m.index + 2), (applyS m.st c).1⟩ := rfl
  have hcI : confsI m c = if (c.kind = 7 ∨ c.kind = 8) ∧ (changeR m.confs (m.index + 1) c.kind c.node).2 = 0 then changeL m.confs (m.index + 1) c.kind c.node else m.confs := rfl
  have haI : activeI m c = if c.kind = 6 ∧ m.active = 0 then m.index + 1 else m.active := rfl
  have hclen := confsI_len (m := m) (c := c)
  have hi0 := hok.1.1
  have hnode : (Lit.int .i64 c.node).wf = true := hcok.2.2.2.2.2.2
  have hmem := (hok.2.1.mems _ (lastC_mem hok.2.1.1.1)).1
  have hzero := changeR_zero (l := m.confs) (x := m.index + 1) (k := c.kind) (n := c.node) hok.2.1 (by omega)
  have hceq := fun h => refChangeL_eq (x := m.index + 1) (kind := c.kind) (n := c.node) hok.2.1 h
  have hrce := refChanged_eq c.kind c.node hmem
  have hstp := hok.2.2.1
  obtain ⟨C, cc, A, d, A', d', rfl, hC, hp, hss⟩ := id hm
  have hs : StV G m.st (.agg [.int .i64 m.st.schema, .slice A m.st.pairs.length d, .slice A' m.st.sess.length d'].toArray) := ⟨_, _, _, _, rfl, hp, hss⟩
  have q1 := refChange_s (m.index + 1) c.kind c.node hC hok.2.1.1.1 (by have := hco.1; omega) hco.one hnode (by omega)
  have q2 := fun G' (h : GH.le G G') => refApply_s c (hs.up h) hstp hc hkz
  have q3 := fun G' (l : List Co) (sv : Value) (h : Cos G' sv l) (hl : l.length ≤ 1000) => refWTrim_s (m.index + 1 + 1) h hl
  have hcz := hco.1
  rw [hrce] at q1
  clear hok hco hm hrce hp hss hs hc hcok hmem
  obtain ⟨kind, cl, seq, key, val, old, node⟩ := c
  generalize activeI m ⟨kind, cl, seq, key, val, old, node⟩ = aI at *
  generalize confsI m ⟨kind, cl, seq, key, val, old, node⟩ = cI at *
  generalize applyS m.st ⟨kind, cl, seq, key, val, old, node⟩ = ap at *
  generalize nextI m ⟨kind, cl, seq, key, val, old, node⟩ = nI at *
  obtain ⟨ix, ac, lc, ⟨z, lp, ls⟩⟩ := m
  simp only at *
  rw [show ix + 2 = ix + 1 + 1 by omega] at hnx
  obtain ⟨s5, ⟨xc, xq, xe, xf, xv, xr⟩, e5⟩ := ap
  simp only at *
  (refine v_enter Tryz.func35 rfl Tryz.ntmps35 rfl ?_; intro B _)
  by_cases h78 : kind = 7 ∨ kind = 8
  · rw [if_neg (fun h => by omega)] at haI
    rw [haI] at hnx
    repeat' (first | (apply v_box (d := 2) (zs := [.int .i64 ix, .int .i64 ac, .slice C lc.length cc, .int .i64 z, .slice A lp.length d, .slice A' ls.length d']); (case hx => rfl); (case hz => rfl); (case hd => rfl); intro b2) | (apply v_box (d := 3) (zs := Cm.cells ⟨kind, cl, seq, key, val, old, node⟩); (case hx => rfl); (case hz => rfl); (case hd => rfl); intro b3) | (apply v_alloc (d := 4); (case hz => rfl); (case hd => rfl); intro b4) | (apply v_alloc (d := 5); (case hz => rfl); (case hd => rfl); intro b5) | (apply v_alloc (d := 7); (case hz => rfl); (case hd => rfl); intro b7) | apply v_seq | apply v_region | apply v_nil | (apply v_take; (case hg => rfl)) | (apply v_pass; (case hg => rfl); (case hn => rfl); (case hd => rfl)) | (apply v_pure; (case hop => first | (apply p_move <;> rfl) | (apply p_eq <;> rfl) | (apply p_assign <;> rfl) | (apply p_pickT <;> rfl) | (apply p_pickF <;> rfl) | (apply p_fieldAddrB <;> rfl) | (apply p_add; (case hx => rfl); (case hy => rfl); (case h => omega)) | (apply p_build; (case hz => rfl); (case hv => (simp only [List.map_cons, List.map_nil]; repeat (first | with_reducible exact evs_nil | (apply evs_cons; (case h1 => rfl))))); (case hb => (apply bldL; repeat (first | exact bld_nil | (apply bld_cons; (case hpf => rfl); (case hc => rfl); (case hs => rfl); (case hl => rfl); (case ho => ((repeat (first | with_reducible exact ov_nil | apply ov_cons)); done))))))) | fail); (case hd => rfl)) | (apply v_condT; (case hc => rfl)) | (apply v_cond; (case hc => rfl); all_goals (intro h; (try simp only [reduceCtorEq, zzz] at h); first | (exfalso; omega) | skip)) | (apply v_guardB; (case h1 => rfl); (case h2 => rfl); all_goals (intro h; (try simp only [reduceCtorEq, zzz] at h))) | (apply v_read; (case hop => (apply r_load1; rfl; (apply Cell.own; (case h => (repeat (first | exact mhd _ | apply mtl))); rfl))); (case hd => rfl)) | (apply v_store; (case hp => rfl); (case hx => rfl); (case hc => rfl); (case hsz => rfl); (case h1 => rfl); (case hb => (repeat (exact mhd _))); (case hfit => exact nle rfl); (case hov => ((repeat (first | with_reducible exact ov_nil | apply ov_cons)); done)); (case hu => repeat (exact Upd.here _ _))) | fail)
    all_goals
      (refine v_call (μ1 := []) rfl q1 (List.Perm.refl _) rfl ?_
       rintro _ G2 _ hle2 ⟨rfl, w, rfl, hw⟩
       obtain ⟨WA, wc, rfl, -⟩ := id hw.open
       by_cases hz : (changedL (lastC lc).2 kind node).length ≠ 0
       · rw [if_pos ⟨h78, hzero.2 hz⟩] at hcI
         rw [decide_eq_true hz]
         rw [hceq hz, ← hcI] at hw
         rw [show refChangeL lc (ix + 1) kind node = cI by rw [hceq hz, hcI]]
         have hCx := hw
         clear hw hcI hceq
         repeat' (first | (apply v_read; (case hop => (apply r_loadNo; (case hx => rfl); (case h => repeat (first | exact mhd _ | apply mtl)); (case hd => rfl); (case hn => rfl))); (case hd => rfl)) | apply v_seq | apply v_region | apply v_nil | apply v_skip | (apply v_pass; (case hg => rfl); (case hn => rfl); (case hd => rfl)) | (apply v_pure; (case hop => first | (apply p_move <;> rfl) | (apply p_eq <;> rfl) | (apply p_assign <;> rfl) | (apply p_pickF <;> rfl) | (apply p_fieldAddrB <;> rfl) | (apply p_extract0 <;> rfl) | (apply p_extract1 <;> rfl) | fail); (case hd => rfl)) | (apply v_condT; (case hc => rfl)) | (apply v_condF; (case hc => rfl)) | (apply v_guardB; (case h1 => rfl); (case h2 => rfl); all_goals (intro h; (try simp only [reduceCtorEq, zzz] at h); first | (exfalso; omega) | skip)) | (apply v_read; (case hop => (apply r_load1; rfl; (apply Cell.own; (case h => (repeat (first | exact mhd _ | apply mtl))); rfl))); (case hd => rfl)) | (apply v_store; (case hp => rfl); (case hx => rfl); (case hc => rfl); (case hsz => rfl); (case h1 => rfl); (case hb => (repeat (exact mhd _))); (case hfit => exact nle rfl); (case hov => ((repeat (first | with_reducible exact ov_nil | apply ov_cons)); done)); (case hu => repeat (exact Upd.here _ _))) | fail)
         refine v_call (μ1 := []) rfl (q2 G2 hle2) (List.Perm.refl _) rfl ?_
         rintro _ G3 _ - ⟨hle3, rfl, v3, rfl, hs3⟩
         obtain ⟨A3, c3, A3', c3', rfl, -, -⟩ := id hs3
         repeat' (first | (apply v_alloc (d := 10); (case hz => rfl); (case hd => rfl); intro b10) | (apply v_alloc (d := 11); (case hz => rfl); (case hd => rfl); intro b11) | (apply v_read; (case hop => (apply r_loadNo; (case hx => rfl); (case h => repeat (first | exact mhd _ | apply mtl)); (case hd => rfl); (case hn => rfl))); (case hd => rfl)) | apply v_seq | apply v_region | apply v_nil | (apply v_pure; (case hop => first | (apply p_move <;> rfl) | (apply p_fieldAddrB <;> rfl) | (apply p_extract0 <;> rfl) | (apply p_extract1 <;> rfl) | (apply p_add; (case hx => rfl); (case hy => rfl); (case h => omega)) | fail); (case hd => rfl)) | (apply v_read; (case hop => (apply r_load1; rfl; (apply Cell.own; (case h => (repeat (first | exact mhd _ | apply mtl))); rfl))); (case hd => rfl)) | (apply v_store; (case hp => rfl); (case hx => rfl); (case hc => rfl); (case hsz => rfl); (case h1 => rfl); (case hb => (repeat (first | exact mhd _ | apply mtl))); (case hfit => exact nle rfl); (case hov => (first | ((repeat (first | with_reducible exact ov_nil | apply ov_cons)); done) | rfl)); (case hu => repeat (first | exact Upd.here _ _ | apply Upd.there))) | fail)
         refine v_call (μ1 := []) rfl (q3 G3 cI _ (hCx.le hle3) (by omega)) (List.Perm.refl _) rfl ?_
         rintro _ G4 _ hle4 ⟨rfl, hC4⟩
         obtain ⟨A4, c4, rfl, -⟩ := id hC4.open
         repeat' (first | apply v_seq | apply v_nil | (apply v_pure; (case hop => (apply p_fieldAddrB <;> rfl)); (case hd => rfl)) | (apply v_store; (case hp => rfl); (case hx => rfl); (case hc => rfl); (case hsz => rfl); (case h1 => rfl); (case hb => (repeat (first | exact mhd _ | apply mtl))); (case hfit => exact nle rfl); (case hov => ((repeat (first | with_reducible exact ov_nil | apply ov_cons)); done)); (case hu => repeat (first | exact Upd.here _ _ | apply Upd.there))) | fail)
         refine d_start [(b7, .cells [.int .i64 (ix + 1), .int .i64 ac, .slice A4 (trimL cI (ix + 1 + 1)).length c4, .int .i64 s5.schema, .slice A3 s5.pairs.length c3, .slice A3' s5.sess.length c3'].toArray 47 (0, 0)), (b11, .cells [.int .i64 xc, .int .i64 xq, .int .i64 xe, .bool xf, .string xv, .int .i64 xr].toArray 40 (0, 0))] (by kernel_rfl) (by kernel_rfl) (by kernel_rfl) (by intro e he; (simp only [List.mem_cons, List.not_mem_nil, or_false] at he; rcases he with rfl | rfl <;> simp; done)) ?_
         all_goals (apply dtk 0; (case hi => rfl); (case hop => first | (apply r_loadNo; (case hx => rfl); (case h => (repeat (exact mhd _))); (case hd => (repeat (first | with_reducible exact dt_nil | apply dt_here))); (case hn => rfl)) | (apply r_load1; rfl; (apply Cell.own; (case h => (repeat (fail))); rfl)) | (apply r_loadN; rfl; (apply CellsAt.own; (case h => (repeat (fail)))); rfl)); (case hq => kernel_rfl))
         all_goals (apply dtk 1; (case hi => rfl); (case hop => first | (apply r_loadNo; (case hx => rfl); (case h => (repeat (first | exact mhd _ | apply mtl))); (case hd => (repeat (first | with_reducible exact dt_nil | apply dt_here))); (case hn => rfl)) | (apply r_load1; rfl; (apply Cell.own; (case h => (repeat (fail))); rfl)) | (apply r_loadN; rfl; (apply CellsAt.own; (case h => (repeat (fail)))); rfl)); (case hq => kernel_rfl))
         all_goals (apply d_store 2; (case hi => rfl); (case hr => kernel_rfl); (case hL => infer_instance); (case hp => rfl); (case hx => rfl); (case hc => rfl); (case hsz => rfl); (case h1 => rfl); (case hb => (repeat (first | exact mhd _ | apply mtl))); (case hfit => exact nle rfl); (case hov => ((repeat (first | with_reducible exact ov_nil | apply ov_cons)); done)); (case hu => repeat (first | exact Upd.here _ _ | apply Upd.there)); (case hν' => intro e he; (simp only [List.mem_cons, List.not_mem_nil, or_false] at he; rcases he with rfl | rfl <;> simp; done)))
         all_goals (apply d_store 3; (case hi => rfl); (case hr => kernel_rfl); (case hL => infer_instance); (case hp => rfl); (case hx => rfl); (case hc => rfl); (case hsz => rfl); (case h1 => rfl); (case hb => (repeat (first | exact mhd _ | apply mtl))); (case hfit => exact nle rfl); (case hov => ((repeat (first | with_reducible exact ov_nil | apply ov_cons)); done)); (case hu => repeat (first | exact Upd.here _ _ | apply Upd.there)); (case hν' => intro e he; (simp only [List.mem_cons, List.not_mem_nil, or_false] at he; rcases he with rfl | rfl <;> simp; done)))
         all_goals (apply d_done; (case hr => kernel_rfl))
         repeat' (fail)
         refine v_retM [] (outsM_cc (sz0 := 6) (vs0 := [.int .i64 (ix + 1), .int .i64 ac, .slice A4 (trimL cI (ix + 1 + 1)).length c4, .int .i64 s5.schema, .slice A3 s5.pairs.length c3, .slice A3' s5.sess.length c3']) (e0 := 47) (sz1 := 6) (vs1 := [.int .i64 xc, .int .i64 xq, .int .i64 xe, .bool xf, .string xv, .int .i64 xr]) (e1 := 40) rfl rfl (by repeat (first | exact mhd _ | apply mtl)) rfl rfl (by repeat (first | exact mhd _ | apply mtl)) rfl) (List.nil_sublist _) ⟨rfl, _, rfl, ?_⟩
         rw [hnx]
         exact ImV.mk' (l := trimL cI (ix + 1 + 1)) (s := s5) hC4 (hs3.up hle4)
       · rw [if_neg (fun h => hz (hzero.1 h.2))] at hcI
         rw [decide_eq_false hz]
         have hCx := hC.le hle2
         rw [hcI] at hnx
         repeat' (first | (apply v_read; (case hop => (apply r_loadNo; (case hx => rfl); (case h => repeat (first | exact mhd _ | apply mtl)); (case hd => rfl); (case hn => rfl))); (case hd => rfl)) | apply v_seq | apply v_region | apply v_nil | apply v_skip | (apply v_pass; (case hg => rfl); (case hn => rfl); (case hd => rfl)) | (apply v_pure; (case hop => first | (apply p_move <;> rfl) | (apply p_eq <;> rfl) | (apply p_assign <;> rfl) | (apply p_pickF <;> rfl) | (apply p_fieldAddrB <;> rfl) | (apply p_extract0 <;> rfl) | (apply p_extract1 <;> rfl) | fail); (case hd => rfl)) | (apply v_condF; (case hc => rfl)) | (apply v_guardB; (case h1 => rfl); (case h2 => rfl); all_goals (intro h; (try simp only [reduceCtorEq, zzz] at h); first | (exfalso; omega) | skip)) | (apply v_read; (case hop => (apply r_load1; rfl; (apply Cell.own; (case h => (repeat (first | exact mhd _ | apply mtl))); rfl))); (case hd => rfl)) | fail)
         refine v_call (μ1 := []) rfl (q2 G2 hle2) (List.Perm.refl _) rfl ?_
         rintro _ G3 _ - ⟨hle3, rfl, v3, rfl, hs3⟩
         obtain ⟨A3, c3, A3', c3', rfl, -, -⟩ := id hs3
         repeat' (first | (apply v_alloc (d := 10); (case hz => rfl); (case hd => rfl); intro b10) | (apply v_alloc (d := 11); (case hz => rfl); (case hd => rfl); intro b11) | (apply v_read; (case hop => (apply r_loadNo; (case hx => rfl); (case h => repeat (first | exact mhd _ | apply mtl)); (case hd => rfl); (case hn => rfl))); (case hd => rfl)) | apply v_seq | apply v_region | apply v_nil | (apply v_pure; (case hop => first | (apply p_move <;> rfl) | (apply p_fieldAddrB <;> rfl) | (apply p_extract0 <;> rfl) | (apply p_extract1 <;> rfl) | (apply p_add; (case hx => rfl); (case hy => rfl); (case h => omega)) | fail); (case hd => rfl)) | (apply v_read; (case hop => (apply r_load1; rfl; (apply Cell.own; (case h => (repeat (first | exact mhd _ | apply mtl))); rfl))); (case hd => rfl)) | (apply v_store; (case hp => rfl); (case hx => rfl); (case hc => rfl); (case hsz => rfl); (case h1 => rfl); (case hb => (repeat (first | exact mhd _ | apply mtl))); (case hfit => exact nle rfl); (case hov => (first | ((repeat (first | with_reducible exact ov_nil | apply ov_cons)); done) | rfl)); (case hu => repeat (first | exact Upd.here _ _ | apply Upd.there))) | fail)
         refine v_call (μ1 := []) rfl (q3 G3 lc _ (hCx.le hle3) (by omega)) (List.Perm.refl _) rfl ?_
         rintro _ G4 _ hle4 ⟨rfl, hC4⟩
         obtain ⟨A4, c4, rfl, -⟩ := id hC4.open
         repeat' (first | apply v_seq | apply v_nil | (apply v_pure; (case hop => (apply p_fieldAddrB <;> rfl)); (case hd => rfl)) | (apply v_store; (case hp => rfl); (case hx => rfl); (case hc => rfl); (case hsz => rfl); (case h1 => rfl); (case hb => (repeat (first | exact mhd _ | apply mtl))); (case hfit => exact nle rfl); (case hov => ((repeat (first | with_reducible exact ov_nil | apply ov_cons)); done)); (case hu => repeat (first | exact Upd.here _ _ | apply Upd.there))) | fail)
         refine d_start [(b7, .cells [.int .i64 (ix + 1), .int .i64 ac, .slice A4 (trimL lc (ix + 1 + 1)).length c4, .int .i64 s5.schema, .slice A3 s5.pairs.length c3, .slice A3' s5.sess.length c3'].toArray 47 (0, 0)), (b11, .cells [.int .i64 xc, .int .i64 xq, .int .i64 xe, .bool xf, .string xv, .int .i64 xr].toArray 40 (0, 0))] (by kernel_rfl) (by kernel_rfl) (by kernel_rfl) (by intro e he; (simp only [List.mem_cons, List.not_mem_nil, or_false] at he; rcases he with rfl | rfl <;> simp; done)) ?_
         all_goals (apply dtk 0; (case hi => rfl); (case hop => first | (apply r_loadNo; (case hx => rfl); (case h => (repeat (exact mhd _))); (case hd => (repeat (first | with_reducible exact dt_nil | apply dt_here))); (case hn => rfl)) | (apply r_load1; rfl; (apply Cell.own; (case h => (repeat (fail))); rfl)) | (apply r_loadN; rfl; (apply CellsAt.own; (case h => (repeat (fail)))); rfl)); (case hq => kernel_rfl))
         all_goals (apply dtk 1; (case hi => rfl); (case hop => first | (apply r_loadNo; (case hx => rfl); (case h => (repeat (first | exact mhd _ | apply mtl))); (case hd => (repeat (first | with_reducible exact dt_nil | apply dt_here))); (case hn => rfl)) | (apply r_load1; rfl; (apply Cell.own; (case h => (repeat (fail))); rfl)) | (apply r_loadN; rfl; (apply CellsAt.own; (case h => (repeat (fail)))); rfl)); (case hq => kernel_rfl))
         all_goals (apply d_store 2; (case hi => rfl); (case hr => kernel_rfl); (case hL => infer_instance); (case hp => rfl); (case hx => rfl); (case hc => rfl); (case hsz => rfl); (case h1 => rfl); (case hb => (repeat (first | exact mhd _ | apply mtl))); (case hfit => exact nle rfl); (case hov => ((repeat (first | with_reducible exact ov_nil | apply ov_cons)); done)); (case hu => repeat (first | exact Upd.here _ _ | apply Upd.there)); (case hν' => intro e he; (simp only [List.mem_cons, List.not_mem_nil, or_false] at he; rcases he with rfl | rfl <;> simp; done)))
         all_goals (apply d_store 3; (case hi => rfl); (case hr => kernel_rfl); (case hL => infer_instance); (case hp => rfl); (case hx => rfl); (case hc => rfl); (case hsz => rfl); (case h1 => rfl); (case hb => (repeat (first | exact mhd _ | apply mtl))); (case hfit => exact nle rfl); (case hov => ((repeat (first | with_reducible exact ov_nil | apply ov_cons)); done)); (case hu => repeat (first | exact Upd.here _ _ | apply Upd.there)); (case hν' => intro e he; (simp only [List.mem_cons, List.not_mem_nil, or_false] at he; rcases he with rfl | rfl <;> simp; done)))
         all_goals (apply d_done; (case hr => kernel_rfl))
         repeat' (fail)
         refine v_retM [] (outsM_cc (sz0 := 6) (vs0 := [.int .i64 (ix + 1), .int .i64 ac, .slice A4 (trimL lc (ix + 1 + 1)).length c4, .int .i64 s5.schema, .slice A3 s5.pairs.length c3, .slice A3' s5.sess.length c3']) (e0 := 47) (sz1 := 6) (vs1 := [.int .i64 xc, .int .i64 xq, .int .i64 xe, .bool xf, .string xv, .int .i64 xr]) (e1 := 40) rfl rfl (by repeat (first | exact mhd _ | apply mtl)) rfl rfl (by repeat (first | exact mhd _ | apply mtl)) rfl) (List.nil_sublist _) ⟨rfl, _, rfl, ?_⟩
         rw [hnx]
         exact ImV.mk' (l := trimL lc (ix + 1 + 1)) (s := s5) hC4 (hs3.up hle4)
       )
  · rw [if_neg (fun h => h78 h.1)] at hcI
    rw [hcI] at hnx
    have hCx := hC
    have hle2 := GH.le_refl G
    obtain ⟨G2, hG2⟩ : ∃ G2, G2 = G := ⟨_, rfl⟩
    subst hG2
    by_cases h6 : kind = 6 ∧ ac = 0
    · rw [if_pos h6] at haI
      obtain ⟨h6, h0⟩ := h6
      rw [haI] at hnx
      repeat' (first | (apply v_box (d := 2) (zs := [.int .i64 ix, .int .i64 ac, .slice C lc.length cc, .int .i64 z, .slice A lp.length d, .slice A' ls.length d']); (case hx => rfl); (case hz => rfl); (case hd => rfl); intro b2) | (apply v_box (d := 3) (zs := Cm.cells ⟨kind, cl, seq, key, val, old, node⟩); (case hx => rfl); (case hz => rfl); (case hd => rfl); intro b3) | (apply v_alloc (d := 4); (case hz => rfl); (case hd => rfl); intro b4) | (apply v_alloc (d := 5); (case hz => rfl); (case hd => rfl); intro b5) | (apply v_alloc (d := 7); (case hz => rfl); (case hd => rfl); intro b7) | (apply v_read; (case hop => (apply r_loadNo; (case hx => rfl); (case h => repeat (first | exact mhd _ | apply mtl)); (case hd => rfl); (case hn => rfl))); (case hd => rfl)) | apply v_seq | apply v_region | apply v_nil | apply v_skip | (apply v_take; (case hg => rfl)) | (apply v_pure; (case hop => first | (apply p_move <;> rfl) | (apply p_eq <;> rfl) | (apply p_assign <;> rfl) | (apply p_pickT <;> rfl) | (apply p_pickF <;> rfl) | (apply p_fieldAddrB <;> rfl) | (apply p_add; (case hx => rfl); (case hy => rfl); (case h => omega)) | (apply p_build; (case hz => rfl); (case hv => (simp only [List.map_cons, List.map_nil]; repeat (first | with_reducible exact evs_nil | (apply evs_cons; (case h1 => rfl))))); (case hb => (apply bldL; repeat (first | exact bld_nil | (apply bld_cons; (case hpf => rfl); (case hc => rfl); (case hs => rfl); (case hl => rfl); (case ho => ((repeat (first | with_reducible exact ov_nil | apply ov_cons)); done))))))) | fail); (case hd => rfl)) | (apply v_cond; (case hc => rfl); all_goals (intro h; (try simp only [reduceCtorEq, zzz] at h); first | (exfalso; omega) | skip)) | (apply v_guardB; (case h1 => rfl); (case h2 => rfl); all_goals (intro h; (try simp only [reduceCtorEq, zzz] at h); first | (exfalso; omega) | skip)) | (apply v_read; (case hop => (apply r_load1; rfl; (apply Cell.own; (case h => (repeat (first | exact mhd _ | apply mtl))); rfl))); (case hd => rfl)) | (apply v_store; (case hp => rfl); (case hx => rfl); (case hc => rfl); (case hsz => rfl); (case h1 => rfl); (case hb => (repeat (exact mhd _))); (case hfit => exact nle rfl); (case hov => ((repeat (first | with_reducible exact ov_nil | apply ov_cons)); done)); (case hu => repeat (exact Upd.here _ _))) | fail)
      refine v_call (μ1 := []) rfl (q2 G2 hle2) (List.Perm.refl _) rfl ?_
      rintro _ G3 _ - ⟨hle3, rfl, v3, rfl, hs3⟩
      obtain ⟨A3, c3, A3', c3', rfl, -, -⟩ := id hs3
      repeat' (first | (apply v_alloc (d := 10); (case hz => rfl); (case hd => rfl); intro b10) | (apply v_alloc (d := 11); (case hz => rfl); (case hd => rfl); intro b11) | (apply v_read; (case hop => (apply r_loadNo; (case hx => rfl); (case h => repeat (first | exact mhd _ | apply mtl)); (case hd => rfl); (case hn => rfl))); (case hd => rfl)) | apply v_seq | apply v_region | apply v_nil | (apply v_pure; (case hop => first | (apply p_move <;> rfl) | (apply p_fieldAddrB <;> rfl) | (apply p_extract0 <;> rfl) | (apply p_extract1 <;> rfl) | (apply p_add; (case hx => rfl); (case hy => rfl); (case h => omega)) | fail); (case hd => rfl)) | (apply v_read; (case hop => (apply r_load1; rfl; (apply Cell.own; (case h => (repeat (first | exact mhd _ | apply mtl))); rfl))); (case hd => rfl)) | (apply v_store; (case hp => rfl); (case hx => rfl); (case hc => rfl); (case hsz => rfl); (case h1 => rfl); (case hb => (repeat (first | exact mhd _ | apply mtl))); (case hfit => exact nle rfl); (case hov => (first | ((repeat (first | with_reducible exact ov_nil | apply ov_cons)); done) | rfl)); (case hu => repeat (first | exact Upd.here _ _ | apply Upd.there))) | fail)
      refine v_call (μ1 := []) rfl (q3 G3 lc _ (hCx.le hle3) (by omega)) (List.Perm.refl _) rfl ?_
      rintro _ G4 _ hle4 ⟨rfl, hC4⟩
      obtain ⟨A4, c4, rfl, -⟩ := id hC4.open
      repeat' (first | apply v_seq | apply v_nil | (apply v_pure; (case hop => (apply p_fieldAddrB <;> rfl)); (case hd => rfl)) | (apply v_store; (case hp => rfl); (case hx => rfl); (case hc => rfl); (case hsz => rfl); (case h1 => rfl); (case hb => (repeat (first | exact mhd _ | apply mtl))); (case hfit => exact nle rfl); (case hov => ((repeat (first | with_reducible exact ov_nil | apply ov_cons)); done)); (case hu => repeat (first | exact Upd.here _ _ | apply Upd.there))) | fail)
      refine d_start [(b7, .cells [.int .i64 (ix + 1), .int .i64 (ix + 1), .slice A4 (trimL lc (ix + 1 + 1)).length c4, .int .i64 s5.schema, .slice A3 s5.pairs.length c3, .slice A3' s5.sess.length c3'].toArray 47 (0, 0)), (b11, .cells [.int .i64 xc, .int .i64 xq, .int .i64 xe, .bool xf, .string xv, .int .i64 xr].toArray 40 (0, 0))] (by kernel_rfl) (by kernel_rfl) (by kernel_rfl) (by intro e he; (simp only [List.mem_cons, List.not_mem_nil, or_false] at he; rcases he with rfl | rfl <;> simp; done)) ?_
      all_goals (apply dtk 0; (case hi => rfl); (case hop => first | (apply r_loadNo; (case hx => rfl); (case h => (repeat (exact mhd _))); (case hd => (repeat (first | with_reducible exact dt_nil | apply dt_here))); (case hn => rfl)) | (apply r_load1; rfl; (apply Cell.own; (case h => (repeat (fail))); rfl)) | (apply r_loadN; rfl; (apply CellsAt.own; (case h => (repeat (fail)))); rfl)); (case hq => kernel_rfl))
      all_goals (apply dtk 1; (case hi => rfl); (case hop => first | (apply r_loadNo; (case hx => rfl); (case h => (repeat (first | exact mhd _ | apply mtl))); (case hd => (repeat (first | with_reducible exact dt_nil | apply dt_here))); (case hn => rfl)) | (apply r_load1; rfl; (apply Cell.own; (case h => (repeat (fail))); rfl)) | (apply r_loadN; rfl; (apply CellsAt.own; (case h => (repeat (fail)))); rfl)); (case hq => kernel_rfl))
      all_goals (apply d_store 2; (case hi => rfl); (case hr => kernel_rfl); (case hL => infer_instance); (case hp => rfl); (case hx => rfl); (case hc => rfl); (case hsz => rfl); (case h1 => rfl); (case hb => (repeat (first | exact mhd _ | apply mtl))); (case hfit => exact nle rfl); (case hov => ((repeat (first | with_reducible exact ov_nil | apply ov_cons)); done)); (case hu => repeat (first | exact Upd.here _ _ | apply Upd.there)); (case hν' => intro e he; (simp only [List.mem_cons, List.not_mem_nil, or_false] at he; rcases he with rfl | rfl <;> simp; done)))
      all_goals (apply d_store 3; (case hi => rfl); (case hr => kernel_rfl); (case hL => infer_instance); (case hp => rfl); (case hx => rfl); (case hc => rfl); (case hsz => rfl); (case h1 => rfl); (case hb => (repeat (first | exact mhd _ | apply mtl))); (case hfit => exact nle rfl); (case hov => ((repeat (first | with_reducible exact ov_nil | apply ov_cons)); done)); (case hu => repeat (first | exact Upd.here _ _ | apply Upd.there)); (case hν' => intro e he; (simp only [List.mem_cons, List.not_mem_nil, or_false] at he; rcases he with rfl | rfl <;> simp; done)))
      all_goals (apply d_done; (case hr => kernel_rfl))
      repeat' (fail)
      refine v_retM [] (outsM_cc (sz0 := 6) (vs0 := [.int .i64 (ix + 1), .int .i64 (ix + 1), .slice A4 (trimL lc (ix + 1 + 1)).length c4, .int .i64 s5.schema, .slice A3 s5.pairs.length c3, .slice A3' s5.sess.length c3']) (e0 := 47) (sz1 := 6) (vs1 := [.int .i64 xc, .int .i64 xq, .int .i64 xe, .bool xf, .string xv, .int .i64 xr]) (e1 := 40) rfl rfl (by repeat (first | exact mhd _ | apply mtl)) rfl rfl (by repeat (first | exact mhd _ | apply mtl)) rfl) (List.nil_sublist _) ⟨rfl, _, rfl, ?_⟩
      rw [hnx]
      exact ImV.mk' (l := trimL lc (ix + 1 + 1)) (s := s5) hC4 (hs3.up hle4)
    · rw [if_neg h6] at haI
      rw [haI] at hnx
      by_cases h6' : kind = 6
      · have h0 : ¬ ac = 0 := fun h => h6 ⟨h6', h⟩
        repeat' (first | (apply v_box (d := 2) (zs := [.int .i64 ix, .int .i64 ac, .slice C lc.length cc, .int .i64 z, .slice A lp.length d, .slice A' ls.length d']); (case hx => rfl); (case hz => rfl); (case hd => rfl); intro b2) | (apply v_box (d := 3) (zs := Cm.cells ⟨kind, cl, seq, key, val, old, node⟩); (case hx => rfl); (case hz => rfl); (case hd => rfl); intro b3) | (apply v_alloc (d := 4); (case hz => rfl); (case hd => rfl); intro b4) | (apply v_alloc (d := 5); (case hz => rfl); (case hd => rfl); intro b5) | (apply v_alloc (d := 7); (case hz => rfl); (case hd => rfl); intro b7) | (apply v_read; (case hop => (apply r_loadNo; (case hx => rfl); (case h => repeat (first | exact mhd _ | apply mtl)); (case hd => rfl); (case hn => rfl))); (case hd => rfl)) | apply v_seq | apply v_region | apply v_nil | apply v_skip | (apply v_take; (case hg => rfl)) | (apply v_pure; (case hop => first | (apply p_move <;> rfl) | (apply p_eq <;> rfl) | (apply p_assign <;> rfl) | (apply p_pickT <;> rfl) | (apply p_pickF <;> rfl) | (apply p_fieldAddrB <;> rfl) | (apply p_add; (case hx => rfl); (case hy => rfl); (case h => omega)) | (apply p_build; (case hz => rfl); (case hv => (simp only [List.map_cons, List.map_nil]; repeat (first | with_reducible exact evs_nil | (apply evs_cons; (case h1 => rfl))))); (case hb => (apply bldL; repeat (first | exact bld_nil | (apply bld_cons; (case hpf => rfl); (case hc => rfl); (case hs => rfl); (case hl => rfl); (case ho => ((repeat (first | with_reducible exact ov_nil | apply ov_cons)); done))))))) | fail); (case hd => rfl)) | (apply v_cond; (case hc => rfl); all_goals (intro h; (try simp only [reduceCtorEq, zzz] at h); first | (exfalso; omega) | skip)) | (apply v_guardB; (case h1 => rfl); (case h2 => rfl); all_goals (intro h; (try simp only [reduceCtorEq, zzz] at h); first | (exfalso; omega) | skip)) | (apply v_read; (case hop => (apply r_load1; rfl; (apply Cell.own; (case h => (repeat (first | exact mhd _ | apply mtl))); rfl))); (case hd => rfl)) | (apply v_store; (case hp => rfl); (case hx => rfl); (case hc => rfl); (case hsz => rfl); (case h1 => rfl); (case hb => (repeat (exact mhd _))); (case hfit => exact nle rfl); (case hov => ((repeat (first | with_reducible exact ov_nil | apply ov_cons)); done)); (case hu => repeat (exact Upd.here _ _))) | fail)
        refine v_call (μ1 := []) rfl (q2 G2 hle2) (List.Perm.refl _) rfl ?_
        rintro _ G3 _ - ⟨hle3, rfl, v3, rfl, hs3⟩
        obtain ⟨A3, c3, A3', c3', rfl, -, -⟩ := id hs3
        repeat' (first | (apply v_alloc (d := 10); (case hz => rfl); (case hd => rfl); intro b10) | (apply v_alloc (d := 11); (case hz => rfl); (case hd => rfl); intro b11) | (apply v_read; (case hop => (apply r_loadNo; (case hx => rfl); (case h => repeat (first | exact mhd _ | apply mtl)); (case hd => rfl); (case hn => rfl))); (case hd => rfl)) | apply v_seq | apply v_region | apply v_nil | (apply v_pure; (case hop => first | (apply p_move <;> rfl) | (apply p_fieldAddrB <;> rfl) | (apply p_extract0 <;> rfl) | (apply p_extract1 <;> rfl) | (apply p_add; (case hx => rfl); (case hy => rfl); (case h => omega)) | fail); (case hd => rfl)) | (apply v_read; (case hop => (apply r_load1; rfl; (apply Cell.own; (case h => (repeat (first | exact mhd _ | apply mtl))); rfl))); (case hd => rfl)) | (apply v_store; (case hp => rfl); (case hx => rfl); (case hc => rfl); (case hsz => rfl); (case h1 => rfl); (case hb => (repeat (first | exact mhd _ | apply mtl))); (case hfit => exact nle rfl); (case hov => (first | ((repeat (first | with_reducible exact ov_nil | apply ov_cons)); done) | rfl)); (case hu => repeat (first | exact Upd.here _ _ | apply Upd.there))) | fail)
        refine v_call (μ1 := []) rfl (q3 G3 lc _ (hCx.le hle3) (by omega)) (List.Perm.refl _) rfl ?_
        rintro _ G4 _ hle4 ⟨rfl, hC4⟩
        obtain ⟨A4, c4, rfl, -⟩ := id hC4.open
        repeat' (first | apply v_seq | apply v_nil | (apply v_pure; (case hop => (apply p_fieldAddrB <;> rfl)); (case hd => rfl)) | (apply v_store; (case hp => rfl); (case hx => rfl); (case hc => rfl); (case hsz => rfl); (case h1 => rfl); (case hb => (repeat (first | exact mhd _ | apply mtl))); (case hfit => exact nle rfl); (case hov => ((repeat (first | with_reducible exact ov_nil | apply ov_cons)); done)); (case hu => repeat (first | exact Upd.here _ _ | apply Upd.there))) | fail)
        refine d_start [(b7, .cells [.int .i64 (ix + 1), .int .i64 ac, .slice A4 (trimL lc (ix + 1 + 1)).length c4, .int .i64 s5.schema, .slice A3 s5.pairs.length c3, .slice A3' s5.sess.length c3'].toArray 47 (0, 0)), (b11, .cells [.int .i64 xc, .int .i64 xq, .int .i64 xe, .bool xf, .string xv, .int .i64 xr].toArray 40 (0, 0))] (by kernel_rfl) (by kernel_rfl) (by kernel_rfl) (by intro e he; (simp only [List.mem_cons, List.not_mem_nil, or_false] at he; rcases he with rfl | rfl <;> simp; done)) ?_
        all_goals (apply dtk 0; (case hi => rfl); (case hop => first | (apply r_loadNo; (case hx => rfl); (case h => (repeat (exact mhd _))); (case hd => (repeat (first | with_reducible exact dt_nil | apply dt_here))); (case hn => rfl)) | (apply r_load1; rfl; (apply Cell.own; (case h => (repeat (fail))); rfl)) | (apply r_loadN; rfl; (apply CellsAt.own; (case h => (repeat (fail)))); rfl)); (case hq => kernel_rfl))
        all_goals (apply dtk 1; (case hi => rfl); (case hop => first | (apply r_loadNo; (case hx => rfl); (case h => (repeat (first | exact mhd _ | apply mtl))); (case hd => (repeat (first | with_reducible exact dt_nil | apply dt_here))); (case hn => rfl)) | (apply r_load1; rfl; (apply Cell.own; (case h => (repeat (fail))); rfl)) | (apply r_loadN; rfl; (apply CellsAt.own; (case h => (repeat (fail)))); rfl)); (case hq => kernel_rfl))
        all_goals (apply d_store 2; (case hi => rfl); (case hr => kernel_rfl); (case hL => infer_instance); (case hp => rfl); (case hx => rfl); (case hc => rfl); (case hsz => rfl); (case h1 => rfl); (case hb => (repeat (first | exact mhd _ | apply mtl))); (case hfit => exact nle rfl); (case hov => ((repeat (first | with_reducible exact ov_nil | apply ov_cons)); done)); (case hu => repeat (first | exact Upd.here _ _ | apply Upd.there)); (case hν' => intro e he; (simp only [List.mem_cons, List.not_mem_nil, or_false] at he; rcases he with rfl | rfl <;> simp; done)))
        all_goals (apply d_store 3; (case hi => rfl); (case hr => kernel_rfl); (case hL => infer_instance); (case hp => rfl); (case hx => rfl); (case hc => rfl); (case hsz => rfl); (case h1 => rfl); (case hb => (repeat (first | exact mhd _ | apply mtl))); (case hfit => exact nle rfl); (case hov => ((repeat (first | with_reducible exact ov_nil | apply ov_cons)); done)); (case hu => repeat (first | exact Upd.here _ _ | apply Upd.there)); (case hν' => intro e he; (simp only [List.mem_cons, List.not_mem_nil, or_false] at he; rcases he with rfl | rfl <;> simp; done)))
        all_goals (apply d_done; (case hr => kernel_rfl))
        repeat' (fail)
        refine v_retM [] (outsM_cc (sz0 := 6) (vs0 := [.int .i64 (ix + 1), .int .i64 ac, .slice A4 (trimL lc (ix + 1 + 1)).length c4, .int .i64 s5.schema, .slice A3 s5.pairs.length c3, .slice A3' s5.sess.length c3']) (e0 := 47) (sz1 := 6) (vs1 := [.int .i64 xc, .int .i64 xq, .int .i64 xe, .bool xf, .string xv, .int .i64 xr]) (e1 := 40) rfl rfl (by repeat (first | exact mhd _ | apply mtl)) rfl rfl (by repeat (first | exact mhd _ | apply mtl)) rfl) (List.nil_sublist _) ⟨rfl, _, rfl, ?_⟩
        rw [hnx]
        exact ImV.mk' (l := trimL lc (ix + 1 + 1)) (s := s5) hC4 (hs3.up hle4)
      · repeat' (first | (apply v_box (d := 2) (zs := [.int .i64 ix, .int .i64 ac, .slice C lc.length cc, .int .i64 z, .slice A lp.length d, .slice A' ls.length d']); (case hx => rfl); (case hz => rfl); (case hd => rfl); intro b2) | (apply v_box (d := 3) (zs := Cm.cells ⟨kind, cl, seq, key, val, old, node⟩); (case hx => rfl); (case hz => rfl); (case hd => rfl); intro b3) | (apply v_alloc (d := 4); (case hz => rfl); (case hd => rfl); intro b4) | (apply v_alloc (d := 5); (case hz => rfl); (case hd => rfl); intro b5) | (apply v_alloc (d := 7); (case hz => rfl); (case hd => rfl); intro b7) | (apply v_read; (case hop => (apply r_loadNo; (case hx => rfl); (case h => repeat (first | exact mhd _ | apply mtl)); (case hd => rfl); (case hn => rfl))); (case hd => rfl)) | apply v_seq | apply v_region | apply v_nil | apply v_skip | (apply v_take; (case hg => rfl)) | (apply v_pass; (case hg => rfl); (case hn => rfl); (case hd => rfl)) | (apply v_pure; (case hop => first | (apply p_move <;> rfl) | (apply p_eq <;> rfl) | (apply p_assign <;> rfl) | (apply p_pickF <;> rfl) | (apply p_fieldAddrB <;> rfl) | (apply p_add; (case hx => rfl); (case hy => rfl); (case h => omega)) | (apply p_build; (case hz => rfl); (case hv => (simp only [List.map_cons, List.map_nil]; repeat (first | with_reducible exact evs_nil | (apply evs_cons; (case h1 => rfl))))); (case hb => (apply bldL; repeat (first | exact bld_nil | (apply bld_cons; (case hpf => rfl); (case hc => rfl); (case hs => rfl); (case hl => rfl); (case ho => ((repeat (first | with_reducible exact ov_nil | apply ov_cons)); done))))))) | fail); (case hd => rfl)) | (apply v_condF; (case hc => rfl)) | (apply v_cond; (case hc => rfl); all_goals (intro h; (try simp only [reduceCtorEq, zzz] at h); first | (exfalso; omega) | skip)) | (apply v_guardB; (case h1 => rfl); (case h2 => rfl); all_goals (intro h; (try simp only [reduceCtorEq, zzz] at h); first | (exfalso; omega) | skip)) | (apply v_read; (case hop => (apply r_load1; rfl; (apply Cell.own; (case h => (repeat (first | exact mhd _ | apply mtl))); rfl))); (case hd => rfl)) | (apply v_store; (case hp => rfl); (case hx => rfl); (case hc => rfl); (case hsz => rfl); (case h1 => rfl); (case hb => (repeat (exact mhd _))); (case hfit => exact nle rfl); (case hov => ((repeat (first | with_reducible exact ov_nil | apply ov_cons)); done)); (case hu => repeat (exact Upd.here _ _))) | fail)
        refine v_call (μ1 := []) rfl (q2 G2 hle2) (List.Perm.refl _) rfl ?_
        rintro _ G3 _ - ⟨hle3, rfl, v3, rfl, hs3⟩
        obtain ⟨A3, c3, A3', c3', rfl, -, -⟩ := id hs3
        repeat' (first | (apply v_alloc (d := 10); (case hz => rfl); (case hd => rfl); intro b10) | (apply v_alloc (d := 11); (case hz => rfl); (case hd => rfl); intro b11) | (apply v_read; (case hop => (apply r_loadNo; (case hx => rfl); (case h => repeat (first | exact mhd _ | apply mtl)); (case hd => rfl); (case hn => rfl))); (case hd => rfl)) | apply v_seq | apply v_region | apply v_nil | (apply v_pure; (case hop => first | (apply p_move <;> rfl) | (apply p_fieldAddrB <;> rfl) | (apply p_extract0 <;> rfl) | (apply p_extract1 <;> rfl) | (apply p_add; (case hx => rfl); (case hy => rfl); (case h => omega)) | fail); (case hd => rfl)) | (apply v_read; (case hop => (apply r_load1; rfl; (apply Cell.own; (case h => (repeat (first | exact mhd _ | apply mtl))); rfl))); (case hd => rfl)) | (apply v_store; (case hp => rfl); (case hx => rfl); (case hc => rfl); (case hsz => rfl); (case h1 => rfl); (case hb => (repeat (first | exact mhd _ | apply mtl))); (case hfit => exact nle rfl); (case hov => (first | ((repeat (first | with_reducible exact ov_nil | apply ov_cons)); done) | rfl)); (case hu => repeat (first | exact Upd.here _ _ | apply Upd.there))) | fail)
        refine v_call (μ1 := []) rfl (q3 G3 lc _ (hCx.le hle3) (by omega)) (List.Perm.refl _) rfl ?_
        rintro _ G4 _ hle4 ⟨rfl, hC4⟩
        obtain ⟨A4, c4, rfl, -⟩ := id hC4.open
        repeat' (first | apply v_seq | apply v_nil | (apply v_pure; (case hop => (apply p_fieldAddrB <;> rfl)); (case hd => rfl)) | (apply v_store; (case hp => rfl); (case hx => rfl); (case hc => rfl); (case hsz => rfl); (case h1 => rfl); (case hb => (repeat (first | exact mhd _ | apply mtl))); (case hfit => exact nle rfl); (case hov => ((repeat (first | with_reducible exact ov_nil | apply ov_cons)); done)); (case hu => repeat (first | exact Upd.here _ _ | apply Upd.there))) | fail)
        refine d_start [(b7, .cells [.int .i64 (ix + 1), .int .i64 ac, .slice A4 (trimL lc (ix + 1 + 1)).length c4, .int .i64 s5.schema, .slice A3 s5.pairs.length c3, .slice A3' s5.sess.length c3'].toArray 47 (0, 0)), (b11, .cells [.int .i64 xc, .int .i64 xq, .int .i64 xe, .bool xf, .string xv, .int .i64 xr].toArray 40 (0, 0))] (by kernel_rfl) (by kernel_rfl) (by kernel_rfl) (by intro e he; (simp only [List.mem_cons, List.not_mem_nil, or_false] at he; rcases he with rfl | rfl <;> simp; done)) ?_
        all_goals (apply dtk 0; (case hi => rfl); (case hop => first | (apply r_loadNo; (case hx => rfl); (case h => (repeat (exact mhd _))); (case hd => (repeat (first | with_reducible exact dt_nil | apply dt_here))); (case hn => rfl)) | (apply r_load1; rfl; (apply Cell.own; (case h => (repeat (fail))); rfl)) | (apply r_loadN; rfl; (apply CellsAt.own; (case h => (repeat (fail)))); rfl)); (case hq => kernel_rfl))
        all_goals (apply dtk 1; (case hi => rfl); (case hop => first | (apply r_loadNo; (case hx => rfl); (case h => (repeat (first | exact mhd _ | apply mtl))); (case hd => (repeat (first | with_reducible exact dt_nil | apply dt_here))); (case hn => rfl)) | (apply r_load1; rfl; (apply Cell.own; (case h => (repeat (fail))); rfl)) | (apply r_loadN; rfl; (apply CellsAt.own; (case h => (repeat (fail)))); rfl)); (case hq => kernel_rfl))
        all_goals (apply d_store 2; (case hi => rfl); (case hr => kernel_rfl); (case hL => infer_instance); (case hp => rfl); (case hx => rfl); (case hc => rfl); (case hsz => rfl); (case h1 => rfl); (case hb => (repeat (first | exact mhd _ | apply mtl))); (case hfit => exact nle rfl); (case hov => ((repeat (first | with_reducible exact ov_nil | apply ov_cons)); done)); (case hu => repeat (first | exact Upd.here _ _ | apply Upd.there)); (case hν' => intro e he; (simp only [List.mem_cons, List.not_mem_nil, or_false] at he; rcases he with rfl | rfl <;> simp; done)))
        all_goals (apply d_store 3; (case hi => rfl); (case hr => kernel_rfl); (case hL => infer_instance); (case hp => rfl); (case hx => rfl); (case hc => rfl); (case hsz => rfl); (case h1 => rfl); (case hb => (repeat (first | exact mhd _ | apply mtl))); (case hfit => exact nle rfl); (case hov => ((repeat (first | with_reducible exact ov_nil | apply ov_cons)); done)); (case hu => repeat (first | exact Upd.here _ _ | apply Upd.there)); (case hν' => intro e he; (simp only [List.mem_cons, List.not_mem_nil, or_false] at he; rcases he with rfl | rfl <;> simp; done)))
        all_goals (apply d_done; (case hr => kernel_rfl))
        repeat' (fail)
        refine v_retM [] (outsM_cc (sz0 := 6) (vs0 := [.int .i64 (ix + 1), .int .i64 ac, .slice A4 (trimL lc (ix + 1 + 1)).length c4, .int .i64 s5.schema, .slice A3 s5.pairs.length c3, .slice A3' s5.sess.length c3']) (e0 := 47) (sz1 := 6) (vs1 := [.int .i64 xc, .int .i64 xq, .int .i64 xe, .bool xf, .string xv, .int .i64 xr]) (e1 := 40) rfl rfl (by repeat (first | exact mhd _ | apply mtl)) rfl rfl (by repeat (first | exact mhd _ | apply mtl)) rfl) (List.nil_sublist _) ⟨rfl, _, rfl, ?_⟩
        rw [hnx]
        exact ImV.mk' (l := trimL lc (ix + 1 + 1)) (s := s5) hC4 (hs3.up hle4)
abbrev exIm : Im := ⟨0, 0, [(1, [1, 2, 3])], emp⟩
abbrev addC : Cm := ⟨7, 0, 0, ByteArray.empty, ByteArray.empty, ByteArray.empty, 4⟩
theorem addC_ok : cmdI addC = 0 := by
  rw [cmdI_eq]
  unfold cmdE
  simp
theorem exC_ok : ConfOK [(1, [1, 2, 3])] :=
  ConfOK.of ⟨by decide, rfl⟩ (by simp) (fun c hc => by simp at hc; subst hc; exact ⟨memOK_of (by decide) (by decide) (by decide), by decide⟩)
theorem exIm_ok : ImP exIm := ⟨⟨by simp, by simp, by simp, by simp⟩, exC_ok, emp_ok, by simp⟩
abbrev exN : Im := ⟨1, 0, [(1, [1, 2, 3]), (5, [1, 2, 3, 4])], emp⟩
theorem ex_app : applyS emp addC = (emp, zA, 0) := by
  unfold applyS
  rw [addC_ok]
  simp
theorem ex_next : nextI exIm addC = exN := by
  unfold nextI confsI
  rw [ex_app, if_pos ⟨.inl rfl, (changeR_zero exC_ok (by decide)).2 (by decide)⟩]
  rfl
theorem exN_ok : ImP exN := by
  have h := nextI_ok exIm_ok (by decide) addC_ok
  rw [ex_next] at h
  exact h
theorem ex_win : winS exIm addC = (exN, zA, 0) := by
  unfold winS
  rw [if_neg (fun h => h exIm_ok), if_neg (by decide), if_neg (by simp [addC_ok]), ex_next, ex_app]
theorem ex_m4 : membersI exN 4 = [1, 2, 3] := by
  unfold membersI
  rw [if_pos ⟨exN_ok, by unfold OpenP; decide⟩]
  rfl
theorem ex_m5 : membersI exN 5 = [1, 2, 3, 4] := by
  unfold membersI
  rw [if_pos ⟨exN_ok, by unfold OpenP; decide⟩]
  rfl
theorem awake30_s {G : GH} (hT : TabsG G) : Con Tryz.prog 22 #[] G [] (fun r G' μ' => r = .bool true ∧ μ' = []) := by
  have hz := emp_ok.small
  (refine v_enter Tryz.func22 rfl Tryz.ntmps22 rfl ?_; intro B _)
  repeat' (first | (apply v_buildSlice; (case hz => rfl); (case hi => rfl); (case hv => (simp only [List.map_cons, List.map_nil]; repeat (first | with_reducible exact evs_nil | (apply evs_cons; (case h1 => rfl))))); (case hp => (apply pk_cons; (case hc => rfl); (case hs => rfl); (case h => (apply pk_cons; (case hc => rfl); (case hs => rfl); (case h => (apply pk_cons; (case hc => rfl); (case hs => rfl); (case h => (with_reducible exact pk_nil)); (case he => ((repeat (first | with_reducible exact ap_nil | apply ap_cons)); done)))); (case he => ((repeat (first | with_reducible exact ap_nil | apply ap_cons)); done)))); (case he => ((repeat (first | with_reducible exact ap_nil | apply ap_cons)); done)))); (case hb => rfl); (case hd => rfl); intro b7) | apply v_seq | apply v_region | apply v_nil | (apply v_pure; (case hop => (apply p_assign <;> rfl)); (case hd => rfl)) | fail)
  refine v_frz [(b7, .cells [Value.int .i64 1, .int .i64 2, .int .i64 3].toArray 3 (0, 0))] (by repeat (exact PickA.last)) ?_
  intro G1 hle1 hG1
  have hm : Sl G1 1 (IntR .i64) (.slice (some ⟨b7, 0, none⟩) 3 3) [1, 2, 3] := Sl.ofInts (l := [1, 2, 3]) rfl (hG1 b7 _ (by (repeat (exact mhd _)))) (by decide) (by decide)
  refine v_call (μ1 := []) rfl (winFirst_s hm (by decide)) (List.Perm.refl _) rfl ?_
  rw [if_pos exC_ok, show firstI [1, 2, 3] = exIm from if_pos exC_ok]
  rintro _ G2 _ hle2 ⟨rfl, v2, rfl, hv2⟩
  obtain ⟨C2, cc2, A2, c2, A2', c2', rfl, hC2, hp2, hss2⟩ := id hv2
  repeat' (first | (apply v_alloc (d := 1); (case hz => rfl); (case hd => rfl); intro b1) | (apply v_read; (case hop => (apply r_loadNo; (case hx => rfl); (case h => repeat (exact mhd _)); (case hd => rfl); (case hn => rfl))); (case hd => rfl)) | apply v_seq | apply v_region | apply v_nil | (apply v_pure; (case hop => first | (apply p_move <;> rfl) | (apply p_assign <;> rfl) | (apply p_extract0 <;> rfl) | (apply p_extract1 <;> rfl) | (apply p_build; (case hz => rfl); (case hv => (simp only [List.map_cons, List.map_nil]; repeat (first | with_reducible exact evs_nil | (apply evs_cons; (case h1 => rfl))))); (case hb => (apply bldL; repeat (first | exact bld_nil | (apply bld_cons; (case hpf => rfl); (case hc => rfl); (case hs => rfl); (case hl => rfl); (case ho => ((repeat (first | with_reducible exact ov_nil | apply ov_cons)); done))))))) | fail); (case hd => rfl)) | (apply v_store; (case hp => rfl); (case hx => rfl); (case hc => rfl); (case hsz => rfl); (case h1 => rfl); (case hb => (repeat (exact mhd _))); (case hfit => exact nle rfl); (case hov => ((repeat (first | with_reducible exact ov_nil | apply ov_cons)); done)); (case hu => repeat (exact Upd.here _ _))) | fail)
  refine v_call (μ1 := []) rfl (winApply_s ((hT.up hle1).up hle2) hv2 hz (exC_ok.coZ (by decide)) addC ⟨by decide, by decide, by decide, Nat.zero_le _, Nat.zero_le _, Nat.zero_le _, by decide⟩ ⟨by decide, by decide⟩) (List.Perm.refl _) rfl ?_
  rw [ex_win]
  rintro _ G3 _ hle3 ⟨rfl, v3, rfl, hv3⟩
  obtain ⟨C3, cc3, A3, c3, A3', c3', rfl, hC3, hp3, hss3⟩ := id hv3
  have q4 := winMembers_s (((hT.up hle1).up hle2).up hle3) 4 hv3 hz (exN_ok.2.1.coZ (by decide)) (by decide)
  have q5 := fun G' (h : GH.le G3 G') => winMembers_s ((((hT.up hle1).up hle2).up hle3).up h) 5 (hv3.up h) hz (exN_ok.2.1.coZ (by decide)) (by decide)
  rw [ex_m4] at q4
  rw [ex_m5] at q5
  repeat' (first | (apply v_alloc (d := 3); (case hz => rfl); (case hd => rfl); intro b3) | (apply v_alloc (d := 4); (case hz => rfl); (case hd => rfl); intro b4) | (apply v_read; (case hop => (apply r_loadNo; (case hx => rfl); (case h => repeat (first | exact mhd _ | apply mtl)); (case hd => rfl); (case hn => rfl))); (case hd => rfl)) | apply v_seq | apply v_region | apply v_nil | (apply v_take; (case hg => rfl)) | (apply v_pure; (case hop => first | (apply p_move <;> rfl) | (apply p_eqs <;> rfl) | (apply p_assign <;> rfl) | (apply p_pickT <;> rfl) | (apply p_fieldAddrB <;> rfl) | (apply p_extract0 <;> rfl) | (apply p_extract1 <;> rfl) | (apply p_extract2 <;> rfl) | fail); (case hd => rfl)) | (apply v_read; (case hop => (apply r_load1; rfl; (apply Cell.own; (case h => (repeat (first | exact mhd _ | apply mtl))); rfl))); (case hd => rfl)) | (apply v_store; (case hp => rfl); (case hx => rfl); (case hc => rfl); (case hsz => rfl); (case h1 => rfl); (case hb => (repeat (first | exact mhd _ | apply mtl))); (case hfit => exact nle rfl); (case hov => ((repeat (first | with_reducible exact ov_nil | apply ov_cons)); done)); (case hu => repeat (first | exact Upd.here _ _ | apply Upd.there))) | fail)
  refine v_call (μ1 := []) rfl q4 (List.Perm.refl _) rfl ?_
  rintro _ G4 _ hle4 ⟨rfl, hr4⟩
  obtain ⟨A4, c4, rfl, -⟩ := id hr4.openInt
  repeat' (first | (apply v_read; (case hop => (apply r_loadNo; (case hx => rfl); (case h => repeat (first | exact mhd _ | apply mtl)); (case hd => rfl); (case hn => rfl))); (case hd => rfl)) | (apply v_take; (case hg => rfl)) | (apply v_pure; (case hop => first | (apply p_move <;> rfl) | (apply p_eqs <;> rfl) | (apply p_pickT <;> rfl) | (apply p_lenSlice <;> rfl) | fail); (case hd => rfl)) | fail)
  refine v_call (μ1 := []) rfl (q5 G4 hle4) (List.Perm.refl _) rfl ?_
  rintro _ G5 _ hle5 ⟨rfl, hr5⟩
  obtain ⟨A5, c5, rfl, -⟩ := id hr5.openInt
  repeat' (first | apply v_nil | (apply v_take; (case hg => rfl)) | (apply v_pure; (case hop => first | (apply p_eqs <;> rfl) | (apply p_assign <;> rfl) | (apply p_pickT <;> rfl) | (apply p_lenSlice <;> rfl) | fail); (case hd => rfl)) | fail)
  refine v_ret [] (outsA1 rfl rfl) (by repeat (exact List.nil_sublist _)) ?_
  exact ⟨rfl, rfl⟩
def CmR (c : Cm) (cs : List Value) : Prop := cs = c.cells ∧ c.ok
theorem el_cm {H : Type} {enc : TypeId × Value → H} {W : World} : Elem enc Tryz.prog W 28 CmR := by
  intro fuel cs x hf
  have h1 := el_flen (n := 7) Tryz.underlying28 (by kernel_rfl) hf
  obtain ⟨a0, h0, w0⟩ := el_fld (i := 0) (sz := 1) (by kernel_rfl) (el_int Tryz.underlying3) hf
  obtain ⟨a1, e1, w1⟩ := el_fld (i := 1) (sz := 1) (by kernel_rfl) (el_int Tryz.underlying3) hf
  obtain ⟨a2, e2, w2⟩ := el_fld (i := 2) (sz := 1) (by kernel_rfl) (el_int Tryz.underlying3) hf
  obtain ⟨a3, e3, w3⟩ := el_fld (i := 3) (sz := 1) (by kernel_rfl) (el_string Tryz.underlying9) hf
  obtain ⟨a4, e4, w4⟩ := el_fld (i := 4) (sz := 1) (by kernel_rfl) (el_string Tryz.underlying9) hf
  obtain ⟨a5, e5, w5⟩ := el_fld (i := 5) (sz := 1) (by kernel_rfl) (el_string Tryz.underlying9) hf
  obtain ⟨a6, e6, w6⟩ := el_fld (i := 6) (sz := 1) (by kernel_rfl) (el_int Tryz.underlying3) hf
  match cs, h1 with
  | [c0, c1, c2, c3, c4, c5, c6], _ =>
    simp only [List.drop_succ_cons, List.drop_zero, List.take_succ_cons, List.take_zero, List.cons.injEq, and_true] at h0 e1 e2 e3 e4 e5 e6
    exact ⟨⟨a0, a1, a2, a3, a4, a5, a6⟩, by rw [h0, e1, e2, e3, e4, e5, e6]; rfl, w0, w1, w2, w3, w4, w5, w6⟩
theorem el_pr {H : Type} {enc : TypeId × Value → H} {W : World} : Elem enc Tryz.prog W 144 (RowR Pr.cells) := by
  intro fuel cs x hf
  have h1 := el_flen (n := 3) Tryz.underlying144 (by kernel_rfl) hf
  obtain ⟨a0, e0, w0⟩ := el_fld (i := 0) (sz := 1) (by kernel_rfl) (el_string Tryz.underlying9) hf
  obtain ⟨a1, e1, w1⟩ := el_fld (i := 1) (sz := 1) (by kernel_rfl) (el_string Tryz.underlying9) hf
  obtain ⟨a2, e2, w2⟩ := el_fld (i := 2) (sz := 1) (by kernel_rfl) (el_int Tryz.underlying3) hf
  match cs, h1 with
  | [c0, c1, c2], _ =>
    simp only [List.drop_succ_cons, List.drop_zero, List.take_succ_cons, List.take_zero, List.cons.injEq, and_true] at e0 e1 e2
    exact ⟨⟨a0, a1, a2⟩, by rw [e0, e1, e2]; rfl⟩
theorem el_an {H : Type} {enc : TypeId × Value → H} {W : World} : Elem enc Tryz.prog W 40 (RowR An.cells) := by
  intro fuel cs x hf
  have h1 := el_flen (n := 6) Tryz.underlying40 (by kernel_rfl) hf
  obtain ⟨a0, e0, w0⟩ := el_fld (i := 0) (sz := 1) (by kernel_rfl) (el_int Tryz.underlying3) hf
  obtain ⟨a1, e1, w1⟩ := el_fld (i := 1) (sz := 1) (by kernel_rfl) (el_int Tryz.underlying3) hf
  obtain ⟨a2, e2, w2⟩ := el_fld (i := 2) (sz := 1) (by kernel_rfl) (el_int (k := .i64) Tryz.underlying25) hf
  obtain ⟨a3, e3⟩ := el_fld (i := 3) (sz := 1) (by kernel_rfl) (el_bool Tryz.underlying4) hf
  obtain ⟨a4, e4, w4⟩ := el_fld (i := 4) (sz := 1) (by kernel_rfl) (el_string Tryz.underlying9) hf
  obtain ⟨a5, e5, w5⟩ := el_fld (i := 5) (sz := 1) (by kernel_rfl) (el_int Tryz.underlying3) hf
  match cs, h1 with
  | [c0, c1, c2, c3, c4, c5], _ =>
    simp only [BoolR, List.drop_succ_cons, List.drop_zero, List.take_succ_cons, List.take_zero, List.cons.injEq, and_true] at e0 e1 e2 e3 e4 e5
    exact ⟨⟨a0, a1, a2, a3, a4, a5⟩, by rw [e0, e1, e2, e3, e4, e5]; rfl⟩
theorem el_ss {H : Type} {enc : TypeId × Value → H} {W : World} : Elem enc Tryz.prog W 146 (RowR Ss.cells) := by
  intro fuel cs x hf
  have h1 := el_flen (n := 8) Tryz.underlying146 (by kernel_rfl) hf
  obtain ⟨a0, e0, w0⟩ := el_fld (i := 0) (sz := 1) (by kernel_rfl) (el_int Tryz.underlying3) hf
  obtain ⟨a1, e1, w1⟩ := el_fld (i := 1) (sz := 1) (by kernel_rfl) (el_int Tryz.underlying3) hf
  obtain ⟨a2, e2⟩ := el_fld (i := 2) (sz := 6) (by kernel_rfl) el_an hf
  match cs, h1 with
  | [c0, c1, c2, c3, c4, c5, c6, c7], _ =>
    simp only [RowR, An.cells, List.drop_succ_cons, List.drop_zero, List.take_succ_cons, List.take_zero, List.cons.injEq, and_true] at e0 e1 e2
    obtain ⟨rfl, rfl, rfl, rfl, rfl, rfl⟩ := e2
    subst e0; subst e1
    exact ⟨⟨a0, a1, a2⟩, rfl⟩
theorem el_st {H : Type} {enc : TypeId × Value → H} {W : World} {fuel : Nat} {cs : List Value} {x : DataW H × List MemPlace} (hf : DataW.trod enc Tryz.prog W 0 (fun _ => true) true fuel 32 cs = some x) : ∃ s : St, StV (ghost W) s (.agg cs.toArray) := by
  have h1 := el_flen (n := 3) Tryz.underlying32 (by kernel_rfl) hf
  obtain ⟨a0, e0, w0⟩ := el_fld (i := 0) (sz := 1) (by kernel_rfl) (el_int Tryz.underlying3) hf
  obtain ⟨l1, v1, e1, s1⟩ := el_fld (i := 1) (sz := 1) (by kernel_rfl) (el_slice (sz := 3) Tryz.underlying29 (by kernel_rfl) el_pr) hf
  obtain ⟨l2, v2, e2, s2⟩ := el_fld (i := 2) (sz := 1) (by kernel_rfl) (el_slice (sz := 8) Tryz.underlying30 (by kernel_rfl) el_ss) hf
  match cs, h1 with
  | [c0, c1, c2], _ =>
    simp only [List.drop_succ_cons, List.drop_zero, List.take_succ_cons, List.take_zero, List.cons.injEq, and_true] at e0 e1 e2
    subst e0; subst e1; subst e2
    exact ⟨⟨a0, l1, l2⟩, StV.mk' s1 s2⟩
set_option maxRecDepth 100000 in
theorem arg_t28 {H : Type} {enc : TypeId × Value → H} {W : World} {base : Nat} {v : Value} {d : DataW H} {p : List MemPlace} (hv : Value.okWide Tryz.prog W .any base 28 v) (h : DataW.Trod enc Tryz.prog W 0 (fun _ => true) true 28 v d p) : ∃ c : Cm, v = .agg c.cells.toArray ∧ c.ok := by
  obtain ⟨cs, rfl⟩ := okWide_agg (by kernel_rfl) hv
  obtain ⟨fuel, hf⟩ := h
  obtain ⟨c, e, hc⟩ := el_cm _ _ _ hf
  have e2 : cs.toList.toArray = c.cells.toArray := congrArg List.toArray e
  rw [Array.toArray_toList] at e2
  exact ⟨c, by rw [e2], hc⟩
theorem firstEq : (Rows.laid_unicode_utf8_first : DataW Unit) = Lib.firstData := by kernel_rfl
theorem acceptEq : (Rows.laid_unicode_utf8_acceptRanges : DataW Unit) = Lib.acceptData := by kernel_rfl
abbrev tabsLaid : List (String × DataW Unit) := [("unicode/utf8.acceptRanges", Rows.laid_unicode_utf8_acceptRanges), ("unicode/utf8.first", Rows.laid_unicode_utf8_first)]
theorem tabs_plain : (tabsLaid.all fun x => x.2.handleName?.isNone) = true := by kernel_rfl
theorem tabs_of_laid {W : World} (hL : laidMetH Tryz.prog tabsLaid W) : TabsG (ghost W) := by
  rw [MakeChecks.laidMetH_plain _ _ _ tabs_plain] at hL
  have r1 := Lib.laidMet.reads hL (.tail _ (.head _))
  have r2 := Lib.laidMet.reads hL (.head _)
  rw [firstEq] at r1
  rw [acceptEq] at r2
  have hU := utf8Tabs_of_readsT (ρ := laysDecode_ren) { laysDecode with } ⟨by kernel_rfl, by kernel_rfl, by kernel_rfl, by kernel_rfl, by kernel_rfl, by kernel_rfl, by kernel_rfl⟩ r1 r2
  clear hL r1 r2
  intro w hw
  have lift : ∀ (a : Addr) v, W.cell? a = some v → w.cell? a = some v := by
    intro a v h
    unfold World.cell? at h ⊢
    cases hb : W.heap[a.block]? with
    | none => rw [hb] at h; simp at h
    | some o => rw [hw _ _ hb]; rw [hb] at h; exact h
  exact ⟨fun c hc => lift _ _ (hU.1 c hc), fun i hi => ⟨lift _ _ (hU.2 i hi).1, lift _ _ (hU.2 i hi).2⟩⟩
theorem el_co {H : Type} {enc : TypeId × Value → H} {W : World} : Elem enc Tryz.prog W 61 (CoR (ghost W)) := by
  intro fuel cs x hx
  have h1 := el_flen (n := 2) Tryz.underlying61 (by kernel_rfl) hx
  obtain ⟨y, hy⟩ := el_fld (i := 0) (sz := 1) (by kernel_rfl) (el_int Tryz.underlying3) hx
  obtain ⟨m, hm⟩ := el_fld (i := 1) (sz := 1) (by kernel_rfl) (el_slice (sz := 1) Tryz.underlying49 (by kernel_rfl) (el_int Tryz.underlying3)) hx
  match cs, h1, hy, hm with
  | [c0, c1], _, hy, hm =>
    obtain ⟨hy, hw⟩ := hy
    obtain ⟨u, hu, hl⟩ := hm
    simp at hy hu
    subst hy; subst hu
    exact ⟨(y, m), _, rfl, hw, hl⟩
theorem el_stR {H : Type} {enc : TypeId × Value → H} {W : World} : Elem enc Tryz.prog W 32 (fun (s : St) cs => StV (ghost W) s (.agg cs.toArray)) := fun fuel cs x hf => el_st hf
theorem el_im {H : Type} {enc : TypeId × Value → H} {W : World} {fuel : Nat} {cs : List Value} {x : DataW H × List MemPlace} (hf : DataW.trod enc Tryz.prog W 0 (fun _ => true) true fuel 47 cs = some x) : ∃ m : Im, ImV (ghost W) m (.agg cs.toArray) := by
  have h1 := el_flen (n := 6) Tryz.underlying47 (by kernel_rfl) hf
  obtain ⟨a0, e0, w0⟩ := el_fld (i := 0) (sz := 1) (by kernel_rfl) (el_int Tryz.underlying3) hf
  obtain ⟨a1, e1, w1⟩ := el_fld (i := 1) (sz := 1) (by kernel_rfl) (el_int Tryz.underlying3) hf
  obtain ⟨l2, v2, e2, s2⟩ := el_fld (i := 2) (sz := 1) (by kernel_rfl) (el_slice (sz := 2) Tryz.underlying45 (by kernel_rfl) el_co) hf
  obtain ⟨s3, h3⟩ := el_fld (i := 3) (sz := 3) (by kernel_rfl) el_stR hf
  match cs, h1 with
  | [c0, c1, c2, c3, c4, c5], _ =>
    simp only [List.drop_succ_cons, List.drop_zero, List.take_succ_cons, List.take_zero, List.cons.injEq, and_true] at e0 e1 e2 h3
    subst e0; subst e1; subst e2
    obtain ⟨A, c, A', c', e, hp, hss⟩ := h3
    cases e
    obtain ⟨C, cc, rfl, -⟩ := id s2.open
    exact ⟨⟨a0, a1, l2, s3⟩, C, cc, A, c, A', c', rfl, s2, hp, hss⟩
set_option maxRecDepth 100000 in
theorem arg_t47 {H : Type} {enc : TypeId × Value → H} {W : World} {base : Nat} {v : Value} {d : DataW H} {p : List MemPlace} (hv : Value.okWide Tryz.prog W .any base 47 v) (h : DataW.Trod enc Tryz.prog W 0 (fun _ => true) true 47 v d p) : ∃ m : Im, ImV (ghost W) m v := by
  obtain ⟨cs, rfl⟩ := okWide_agg (by kernel_rfl) hv
  obtain ⟨fuel, hf⟩ := h
  exact el_im hf
theorem winSame_s {G : GH} {m m' : Im} {v v' : Value} (hm : ImV G m v) (hm' : ImV G m' v') : Con Tryz.prog 36 #[v, v'] G [] (Sm (m = m') G) := by
  obtain ⟨C, cc, A, c, A', c', rfl, hC, hp, hss⟩ := hm
  obtain ⟨C2, cc2, B, d, B', d', rfl, hC2, hp2, hss2⟩ := hm'
  have hs : StV G m.st (.agg [.int .i64 m.st.schema, .slice A m.st.pairs.length c, .slice A' m.st.sess.length c'].toArray) := ⟨_, _, _, _, rfl, hp, hss⟩
  have hs2 : StV G m'.st (.agg [.int .i64 m'.st.schema, .slice B m'.st.pairs.length d, .slice B' m'.st.sess.length d'].toArray) := ⟨_, _, _, _, rfl, hp2, hss2⟩
  have q1 := coEqualF_s hC hC2
  have q2 := migSame_s hs hs2
  have hin : m = m' → m.index = m'.index ∧ m.active = m'.active ∧ m.confs = m'.confs ∧ m.st = m'.st := fun h => by subst h; exact ⟨rfl, rfl, rfl, rfl⟩
  clear hC hp hss hs hC2 hp2 hss2 hs2
  obtain ⟨ix2, ac2, lc2, ⟨z2, lp2, ls2⟩⟩ := m'
  simp only at *
  generalize lp2.length = np2 at *
  generalize ls2.length = ns2 at *
  generalize lc2.length = nl2 at *
  (obtain ⟨ix, ac, lc, ⟨z, lp, ls⟩⟩ := m; simp only at *; generalize lp.length = np at *; generalize ls.length = ns at *; generalize lc.length = nl at *)
  (refine v_enter Tryz.func36 rfl Tryz.ntmps36 rfl ?_; intro B _)
  repeat' (first | (apply v_box (d := 2) (zs := [.int .i64 ix, .int .i64 ac, .slice C nl cc, .int .i64 z, .slice A np c, .slice A' ns c']); (case hx => rfl); (case hz => rfl); (case hd => rfl); intro b2) | apply v_seq | apply v_region | apply v_nil | (apply v_take; (case hg => rfl)) | (apply v_pass; (case hg => rfl); (case hn => rfl); (case hd => rfl)) | (apply v_pure; (case hop => first | (apply p_move <;> rfl) | (apply p_eq <;> rfl) | (apply p_assign <;> rfl) | (apply p_pickT <;> rfl) | (apply p_pickF <;> rfl) | (apply p_fieldAddrB <;> rfl) | fail); (case hd => rfl)) | (apply v_guardB; (case h1 => rfl); (case h2 => rfl); all_goals (intro h; (try simp only [reduceCtorEq, zzz] at h))) | (apply v_read; (case hop => (apply r_load1; rfl; (apply Cell.own; (case h => (repeat (first | exact mhd _ | apply mtl))); rfl))); (case hd => rfl)) | (apply v_box; (case hx => rfl); (case hz => rfl); (case hd => rfl); intro b) | fail)
  all_goals first
    | (refine v_ret [] (outsA1 rfl rfl) (by repeat (first | exact List.Sublist.refl _ | exact List.nil_sublist _ | fail)) ?_
       exact ⟨rfl, rfl, _, rfl, fun h => by have := hin h; simp_all⟩)
    | skip
  refine v_call (μ1 := []) rfl q1 (List.Perm.refl _) rfl ?_
  rintro _ G1 _ - ⟨hG1, rfl, b3, rfl, h3⟩
  subst hG1
  cases b3 with
  | false =>
    repeat' (first | apply v_nil | (apply v_pass; (case hg => rfl); (case hn => rfl); (case hd => rfl)) | (apply v_pure; (case hop => first | (apply p_move <;> rfl) | (apply p_assign <;> rfl) | (apply p_pickT <;> rfl) | (apply p_pickF <;> rfl) | fail); (case hd => rfl)) | fail)
    refine v_ret [] (outsA1 rfl rfl) (by repeat (exact List.nil_sublist _)) ?_
    exact ⟨rfl, rfl, _, rfl, fun h => absurd (h3 (hin h).2.2.1) (by simp)⟩
  | true =>
    repeat' (first | (apply v_take; (case hg => rfl)) | (apply v_pure; (case hop => first | (apply p_move <;> rfl) | (apply p_pickT <;> rfl) | (apply p_fieldAddrB <;> rfl) | fail); (case hd => rfl)) | (apply v_read; (case hop => (apply r_loadNo; (case hx => rfl); (case h => (repeat (first | exact mhd _ | apply mtl))); (case hd => (repeat (first | with_reducible exact dt_nil | apply dt_here))); (case hn => rfl))); (case hd => rfl)) | fail)
    refine v_call (μ1 := []) rfl q2 (List.Perm.refl _) rfl ?_
    rintro _ G1 _ - ⟨hG1, rfl, b4, rfl, h4⟩
    subst hG1
    repeat' (first | apply v_nil | (apply v_pure; (case hop => first | (apply p_assign <;> rfl) | (apply p_pickT <;> rfl) | fail); (case hd => rfl)) | fail)
    refine v_ret [] (outsA1 rfl rfl) (by repeat (exact List.nil_sublist _)) ?_
    exact ⟨rfl, rfl, _, rfl, fun h => h4 (hin h).2.2.2⟩
theorem eqAn {σ : Env} {ty t' : TypeId} {a b : Operand} {x y : An} (h : x = y) (hx : Env.ev σ a = some (.agg x.cells.toArray)) (hy : Env.ev σ b = some (.agg y.cells.toArray)) : PureOp Tryz.prog (.binOp .eql 40 a b t') ty σ (.bool true) := by
  obtain ⟨q, hq, h1⟩ := an_feqD 9998 x y
  have := p_eqStruct (P := Tryz.prog) (ty := ty) (t := 40) (t' := t') hx hy hq
  rw [h1 h] at this
  exact this
theorem Cms.one {G : GH} {b : Nat} {c : Cm} (hb : G b = some (.cells c.cells.toArray 28 (0, 0))) : Cms G (.slice (some ⟨b, 0, none⟩) 1 1) [c] :=
  row_of_grow (e := 28) (l := [c]) (ν := [(b, .cells c.cells.toArray 28 (0, 0))]) Cm.len ⟨by simp [rowC, Cm.len], .inr ⟨b, 1, [], rfl, by simp [rowC], by simp, by simp [maxLen], by simp [rowC, Cm.len]⟩⟩ (fun b' o h => by simp only [List.mem_singleton] at h; cases h; exact hb)
theorem windowApplies_law {W : World} {v0 v1 : Value} (hT : TabsG (ghost W)) (g0 : ∃ m : Im, ImV (ghost W) m v0) (g1 : ∃ c : Cm, v1 = .agg c.cells.toArray ∧ c.ok) : LawCon Tryz.prog 6 #[v0, v1] W := by
  obtain ⟨m, hm⟩ := g0
  obtain ⟨c, rfl, hcok⟩ := g1
  unfold LawCon
  generalize ghost W = G at *
  have qa := fun G' (h : GH.le G G') => awake30_s (hT.up h)
  have q1 := refWLarge_s hm
  obtain ⟨C, cc, A, d, A', d', rfl, hC, hp, hss⟩ := id hm
  obtain ⟨kind, cl, seq, key, val, old, node⟩ := c
  (refine v_enter Tryz.func6 rfl Tryz.ntmps6 rfl ?_; intro B _)
  repeat' (first | (apply v_box (d := 2) (zs := [.int .i64 m.index, .int .i64 m.active, .slice C m.confs.length cc, .int .i64 m.st.schema, .slice A m.st.pairs.length d, .slice A' m.st.sess.length d']); (case hx => rfl); (case hz => rfl); (case hd => rfl); intro b2) | (apply v_box (d := 3) (zs := Cm.cells ⟨kind, cl, seq, key, val, old, node⟩); (case hx => rfl); (case hz => rfl); (case hd => rfl); intro b3) | (apply v_read; (case hop => (apply r_loadNo; (case hx => rfl); (case h => repeat (first | exact mhd _ | apply mtl)); (case hd => rfl); (case hn => rfl))); (case hd => rfl)) | apply v_seq | apply v_region | apply v_nil | (apply v_pure; (case hop => (apply p_assign <;> rfl)); (case hd => rfl)) | fail)
  refine v_call (μ1 := []) rfl q1 (List.Perm.refl _) rfl ?_
  rintro _ G1 _ - ⟨hG1, rfl, b1, rfl, h1⟩
  subst hG1
  cases b1 with
  | true =>
    repeat' (first | apply v_seq | apply v_region | apply v_nil | (apply v_pass; (case hg => rfl); (case hn => rfl); (case hd => rfl)) | (apply v_pure; (case hop => first | (apply p_move <;> rfl) | (apply p_pickT <;> rfl) | fail); (case hd => rfl)) | (apply v_condT; (case hc => rfl)) | fail)
    refine v_call (μ1 := []) rfl (qa _ (GH.le_refl _)) (List.Perm.refl _) rfl ?_
    rintro _ G9 _ - ⟨rfl, rfl⟩
    repeat' (first | apply v_nil | (apply v_pure; (case hop => (apply p_assign <;> rfl)); (case hd => rfl)) | fail)
    refine v_ret [] (outsA1 rfl rfl) (by repeat (exact List.nil_sublist _)) ?_
    rfl
  | false =>
    obtain ⟨hco, hcl, hz⟩ := h1 rfl
    repeat' (first | (apply v_read; (case hop => (apply r_loadNo; (case hx => rfl); (case h => repeat (exact mhd _)); (case hd => rfl); (case hn => rfl))); (case hd => rfl)) | (apply v_buildSlice; (case hz => rfl); (case hi => rfl); (case hv => (simp only [List.map_cons, List.map_nil]; repeat (first | with_reducible exact evs_nil | (apply evs_cons; (case h1 => rfl))))); (case hp => (apply pk_cons; (case hc => rfl); (case hs => rfl); (case h => (with_reducible exact pk_nil)); (case he => (rfl)))); (case hb => rfl); (case hd => rfl); intro b9) | (apply v_take; (case hg => rfl)) | (apply v_pure; (case hop => (apply p_move <;> rfl)); (case hd => rfl)) | fail)
    refine v_frz [(b9, .cells (Cm.cells ⟨kind, cl, seq, key, val, old, node⟩).toArray 28 (0, 0))] (PickA.here _) ?_
    intro G2 hle2 hG2
    refine v_call (μ1 := []) rfl (lg28_s (Cms.one (hG2 b9 _ (by (repeat (exact mhd _)))))) (List.Perm.refl _) rfl ?_
    rintro _ G1 _ - ⟨hG1, rfl, b1, rfl, h2⟩
    subst hG1
    cases b1 with
    | true =>
      repeat' (first | apply v_seq | apply v_region | apply v_nil | (apply v_pure; (case hop => (apply p_pickF <;> rfl)); (case hd => rfl)) | (apply v_condT; (case hc => rfl)) | fail)
      refine v_call (μ1 := []) rfl (qa _ hle2) (List.Perm.refl _) rfl ?_
      rintro _ G9 _ - ⟨rfl, rfl⟩
      repeat' (first | apply v_nil | (apply v_pure; (case hop => (apply p_assign <;> rfl)); (case hd => rfl)) | fail)
      refine v_ret [] (outsA1 rfl rfl) (by repeat (exact List.nil_sublist _)) ?_
      rfl
    | false =>
      have hcw : CmW ⟨kind, cl, seq, key, val, old, node⟩ := ⟨((h2 rfl).2 _ (List.Mem.head _)).1, ((h2 rfl).2 _ (List.Mem.head _)).2.1⟩
      have hm2 := hm.up hle2
      have qc := refWCheck_s hm2 hz
      have qw := winCheck_s (hT.up hle2) hm2 hz
      have qA := winApply_s (hT.up hle2) hm2 hz hco ⟨kind, cl, seq, key, val, old, node⟩ hcok hcw
      have hst : winS m ⟨kind, cl, seq, key, val, old, node⟩ = if ¬ ImP m then (zeroIm, zA, 3) else if 4294967292 ≤ m.index then (zeroIm, zA, 11) else if cmdI ⟨kind, cl, seq, key, val, old, node⟩ ≠ 0 then (zeroIm, zA, cmdI ⟨kind, cl, seq, key, val, old, node⟩) else (nextI m ⟨kind, cl, seq, key, val, old, node⟩, (applyS m.st ⟨kind, cl, seq, key, val, old, node⟩).2.1, 0) := rfl
      rw [hst] at qA
      by_cases hP : ImP m
      · rw [decide_eq_true hP] at qc
        rw [if_pos hP] at qw
        rw [if_neg (fun h => h hP)] at qA
        by_cases hfull : 4294967292 ≤ m.index
        · rw [if_pos hfull] at qA
          repeat' (first | (apply v_read; (case hop => (apply r_loadNo; (case hx => rfl); (case h => repeat (first | exact mhd _ | apply mtl)); (case hd => rfl); (case hn => rfl))); (case hd => rfl)) | apply v_seq | apply v_region | apply v_nil | apply v_skip | (apply v_pure; (case hop => first | (apply p_move <;> rfl) | (apply p_eqs <;> rfl) | (apply p_neBs <;> rfl) | (apply p_assign <;> rfl) | (apply p_pickF <;> rfl) | fail); (case hd => rfl)) | (apply v_condF; (case hc => rfl)) | (apply v_callJ (hs := qc); (case ha => rfl); (case hd => rfl)) | (apply v_callJ (hs := qw); (case ha => rfl); (case hd => rfl)) | fail)
          refine v_call (μ1 := []) rfl qA (List.Perm.refl _) rfl ?_
          rintro _ G3 _ hle3 ⟨rfl, v3, rfl, hv3⟩
          obtain ⟨C3, cc3, A3, c3, A3', c3', rfl, -, -, -⟩ := id hv3
          repeat' (first | (apply v_alloc (d := 6); (case hz => rfl); (case hd => rfl); intro b6) | (apply v_alloc (d := 7); (case hz => rfl); (case hd => rfl); intro b7) | (apply v_read; (case hop => (apply r_loadNo; (case hx => rfl); (case h => repeat (first | exact mhd _ | apply mtl)); (case hd => rfl); (case hn => rfl))); (case hd => rfl)) | apply v_seq | apply v_region | apply v_nil | apply v_skip | (apply v_take; (case hg => rfl)) | (apply v_pure; (case hop => first | (apply p_move <;> rfl) | (apply p_eqs <;> rfl) | (apply p_ge <;> rfl) | (apply p_assign <;> rfl) | (apply p_not <;> rfl) | (apply p_fieldAddrB <;> rfl) | (apply p_extract0 <;> rfl) | (apply p_extract1 <;> rfl) | (apply p_extract2 <;> rfl) | (apply p_build; (case hz => rfl); (case hv => (simp only [List.map_cons, List.map_nil]; repeat (with_reducible exact evs_nil))); (case hb => (apply bldL; repeat (exact bld_nil)))) | fail); (case hd => rfl)) | (apply v_condF; (case hc => rfl)) | (apply v_cond; (case hc => rfl); all_goals (intro h; (try simp only [reduceCtorEq, zzz] at h); first | (exfalso; omega) | skip)) | (apply v_read; (case hop => (apply r_load1; rfl; (apply Cell.own; (case h => (repeat (first | exact mhd _ | apply mtl))); rfl))); (case hd => rfl)) | (apply v_store; (case hp => rfl); (case hx => rfl); (case hc => rfl); (case hsz => rfl); (case h1 => rfl); (case hb => (repeat (first | exact mhd _ | apply mtl))); (case hfit => exact nle rfl); (case hov => ((repeat (first | with_reducible exact ov_nil | apply ov_cons)); done)); (case hu => repeat (first | exact Upd.here _ _ | apply Upd.there))) | fail)
          refine v_call (μ1 := []) rfl (refWSame_s hv3 (ImV.zero G3)) (List.Perm.refl _) rfl ?_
          rintro _ G4 _ - ⟨hG4, rfl, b4, rfl, h4⟩
          subst hG4
          obtain rfl := h4 rfl
          repeat' (first | (apply v_take; (case hg => rfl)) | (apply v_pure; (case hop => first | (apply p_move <;> rfl) | (apply p_pickT <;> rfl) | fail); (case hd => rfl)) | fail)
          refine v_call (μ1 := []) rfl (qa _ (GH.le_trans hle2 hle3)) (List.Perm.refl _) rfl ?_
          rintro _ G9 _ - ⟨rfl, rfl⟩
          repeat' (first | apply v_nil | (apply v_pure; (case hop => first | (apply p_assign <;> rfl) | (apply p_pickT <;> rfl) | fail); (case hd => rfl)) | fail)
          refine v_ret [] (outsA1 rfl rfl) (by repeat (exact List.nil_sublist _)) ?_
          rfl
        · rw [if_neg hfull] at qA
          have qcc := fun G' => refCmdCheck_s (G := G') ⟨kind, cl, seq, key, val, old, node⟩ hcok
          by_cases hci : cmdI ⟨kind, cl, seq, key, val, old, node⟩ = 0
          · rw [if_neg (by simp [hci])] at qA
            rw [hci] at qcc
            have hok' := nextI_ok hP (by omega) hci
            have qR := fun G' (h : GH.le _ G') => refWApply_s (hm.up h) hP (by omega) hco ⟨kind, cl, seq, key, val, old, node⟩ hci hcok hcw.1
            generalize nextI m ⟨kind, cl, seq, key, val, old, node⟩ = m5 at *
            generalize (applyS m.st ⟨kind, cl, seq, key, val, old, node⟩).2.1 = a5 at *
            repeat' (first | (apply v_read; (case hop => (apply r_loadNo; (case hx => rfl); (case h => repeat (first | exact mhd _ | apply mtl)); (case hd => rfl); (case hn => rfl))); (case hd => rfl)) | apply v_seq | apply v_region | apply v_nil | apply v_skip | (apply v_pure; (case hop => first | (apply p_move <;> rfl) | (apply p_eqs <;> rfl) | (apply p_neBs <;> rfl) | (apply p_assign <;> rfl) | (apply p_pickF <;> rfl) | fail); (case hd => rfl)) | (apply v_condF; (case hc => rfl)) | (apply v_callJ (hs := qc); (case ha => rfl); (case hd => rfl)) | (apply v_callJ (hs := qw); (case ha => rfl); (case hd => rfl)) | fail)
            refine v_call (μ1 := []) rfl qA (List.Perm.refl _) rfl ?_
            rintro _ G3 _ hle3 ⟨rfl, v3, rfl, hv3⟩
            obtain ⟨C3, cc3, A3, c3, A3', c3', rfl, -, -, -⟩ := id hv3
            repeat' (first | (apply v_alloc (d := 6); (case hz => rfl); (case hd => rfl); intro b6) | (apply v_alloc (d := 7); (case hz => rfl); (case hd => rfl); intro b7) | (apply v_read; (case hop => (apply r_loadNo; (case hx => rfl); (case h => repeat (first | exact mhd _ | apply mtl)); (case hd => rfl); (case hn => rfl))); (case hd => rfl)) | apply v_seq | apply v_region | apply v_nil | apply v_skip | (apply v_pure; (case hop => first | (apply p_move <;> rfl) | (apply p_ge <;> rfl) | (apply p_assign <;> rfl) | (apply p_not <;> rfl) | (apply p_fieldAddrB <;> rfl) | (apply p_extract0 <;> rfl) | (apply p_extract1 <;> rfl) | (apply p_extract2 <;> rfl) | fail); (case hd => rfl)) | (apply v_condF; (case hc => rfl)) | (apply v_cond; (case hc => rfl); all_goals (intro h; (try simp only [reduceCtorEq, zzz] at h); first | (exfalso; omega) | skip)) | (apply v_read; (case hop => (apply r_load1; rfl; (apply Cell.own; (case h => (repeat (first | exact mhd _ | apply mtl))); rfl))); (case hd => rfl)) | (apply v_store; (case hp => rfl); (case hx => rfl); (case hc => rfl); (case hsz => rfl); (case h1 => rfl); (case hb => (repeat (first | exact mhd _ | apply mtl))); (case hfit => exact nle rfl); (case hov => ((repeat (first | with_reducible exact ov_nil | apply ov_cons)); done)); (case hu => repeat (first | exact Upd.here _ _ | apply Upd.there))) | fail)
            refine v_call (μ1 := []) rfl (qcc _) (List.Perm.refl _) rfl ?_
            rintro _ G4 _ hle4 ⟨rfl, rfl⟩
            repeat' (first | (apply v_read; (case hop => (apply r_loadNo; (case hx => rfl); (case h => repeat (first | exact mhd _ | apply mtl)); (case hd => rfl); (case hn => rfl))); (case hd => rfl)) | apply v_seq | apply v_region | apply v_nil | apply v_skip | (apply v_pure; (case hop => first | (apply p_move <;> rfl) | (apply p_nes <;> rfl) | (apply p_assign <;> rfl) | fail); (case hd => rfl)) | (apply v_condF; (case hc => rfl)) | fail)
            refine v_call (μ1 := []) rfl (qR G4 (GH.le_trans hle2 (GH.le_trans hle3 hle4))) (List.Perm.refl _) rfl ?_
            rintro _ G5 _ hle5 ⟨rfl, v5, rfl, hv5⟩
            obtain ⟨C5, cc5, A5, c5, A5', c5', rfl, -, -, -⟩ := id hv5
            have hv3' := hv3.up (GH.le_trans hle4 hle5)
            have qk := refWCheck_s hv3' hok'.2.2.1.small
            rw [decide_eq_true hok'] at qk
            repeat' (first | (apply v_alloc (d := 10); (case hz => rfl); (case hd => rfl); intro b10) | (apply v_alloc (d := 11); (case hz => rfl); (case hd => rfl); intro b11) | (apply v_read; (case hop => (apply r_loadNo; (case hx => rfl); (case h => repeat (first | exact mhd _ | apply mtl)); (case hd => rfl); (case hn => rfl))); (case hd => rfl)) | (apply v_pure; (case hop => (apply eqAn (x := a5) (y := a5) rfl; (case hx => rfl); (case hy => rfl))); (case hd => rfl)) | apply v_seq | apply v_region | apply v_nil | (apply v_take; (case hg => rfl)) | (apply v_pure; (case hop => first | (apply p_move <;> rfl) | (apply p_eqs <;> rfl) | (apply p_pickT <;> rfl) | (apply p_extract0 <;> rfl) | (apply p_extract1 <;> rfl) | fail); (case hd => rfl)) | (apply v_store; (case hp => rfl); (case hx => rfl); (case hc => rfl); (case hsz => rfl); (case h1 => rfl); (case hb => (repeat (first | exact mhd _ | apply mtl))); (case hfit => exact nle rfl); (case hov => ((repeat (first | with_reducible exact ov_nil | apply ov_cons)); done)); (case hu => repeat (first | exact Upd.here _ _ | apply Upd.there))) | fail)
            refine v_call (μ1 := []) rfl (refWSame_s hv3' hv5) (List.Perm.refl _) rfl ?_
            rintro _ G6 _ - ⟨hG6, rfl, b6, rfl, h6⟩
            subst hG6
            obtain rfl := h6 rfl
            repeat' (first | (apply v_read; (case hop => (apply r_loadNo; (case hx => rfl); (case h => repeat (first | exact mhd _ | apply mtl)); (case hd => rfl); (case hn => rfl))); (case hd => rfl)) | (apply v_take; (case hg => rfl)) | (apply v_pure; (case hop => first | (apply p_move <;> rfl) | (apply p_pickT <;> rfl) | fail); (case hd => rfl)) | (apply v_callJ (hs := qk); (case ha => rfl); (case hd => rfl)) | fail)
            refine v_call (μ1 := []) rfl (winSame_s hv3' hv5) (List.Perm.refl _) rfl ?_
            rintro _ G6 _ - ⟨hG6, rfl, b6, rfl, h6⟩
            subst hG6
            obtain rfl := h6 rfl
            repeat' (first | (apply v_take; (case hg => rfl)) | (apply v_pure; (case hop => first | (apply p_move <;> rfl) | (apply p_pickT <;> rfl) | fail); (case hd => rfl)) | fail)
            refine v_call (μ1 := []) rfl (qa _ (GH.le_trans hle2 (GH.le_trans hle3 (GH.le_trans hle4 hle5)))) (List.Perm.refl _) rfl ?_
            rintro _ G9 _ - ⟨rfl, rfl⟩
            repeat' (first | apply v_nil | (apply v_pure; (case hop => first | (apply p_assign <;> rfl) | (apply p_pickT <;> rfl) | fail); (case hd => rfl)) | fail)
            refine v_ret [] (outsA1 rfl rfl) (by repeat (exact List.nil_sublist _)) ?_
            rfl
          · rw [if_pos hci] at qA
            generalize cmdI ⟨kind, cl, seq, key, val, old, node⟩ = ci at *
            repeat' (first | (apply v_read; (case hop => (apply r_loadNo; (case hx => rfl); (case h => repeat (first | exact mhd _ | apply mtl)); (case hd => rfl); (case hn => rfl))); (case hd => rfl)) | apply v_seq | apply v_region | apply v_nil | apply v_skip | (apply v_pure; (case hop => first | (apply p_move <;> rfl) | (apply p_eqs <;> rfl) | (apply p_neBs <;> rfl) | (apply p_assign <;> rfl) | (apply p_pickF <;> rfl) | fail); (case hd => rfl)) | (apply v_condF; (case hc => rfl)) | (apply v_callJ (hs := qc); (case ha => rfl); (case hd => rfl)) | (apply v_callJ (hs := qw); (case ha => rfl); (case hd => rfl)) | fail)
            refine v_call (μ1 := []) rfl qA (List.Perm.refl _) rfl ?_
            rintro _ G3 _ hle3 ⟨rfl, v3, rfl, hv3⟩
            obtain ⟨C3, cc3, A3, c3, A3', c3', rfl, -, -, -⟩ := id hv3
            repeat' (first | (apply v_alloc (d := 6); (case hz => rfl); (case hd => rfl); intro b6) | (apply v_alloc (d := 7); (case hz => rfl); (case hd => rfl); intro b7) | (apply v_read; (case hop => (apply r_loadNo; (case hx => rfl); (case h => repeat (first | exact mhd _ | apply mtl)); (case hd => rfl); (case hn => rfl))); (case hd => rfl)) | apply v_seq | apply v_region | apply v_nil | apply v_skip | (apply v_pure; (case hop => first | (apply p_move <;> rfl) | (apply p_ge <;> rfl) | (apply p_assign <;> rfl) | (apply p_not <;> rfl) | (apply p_fieldAddrB <;> rfl) | (apply p_extract0 <;> rfl) | (apply p_extract1 <;> rfl) | (apply p_extract2 <;> rfl) | fail); (case hd => rfl)) | (apply v_condF; (case hc => rfl)) | (apply v_cond; (case hc => rfl); all_goals (intro h; (try simp only [reduceCtorEq, zzz] at h); first | (exfalso; omega) | skip)) | (apply v_read; (case hop => (apply r_load1; rfl; (apply Cell.own; (case h => (repeat (first | exact mhd _ | apply mtl))); rfl))); (case hd => rfl)) | (apply v_store; (case hp => rfl); (case hx => rfl); (case hc => rfl); (case hsz => rfl); (case h1 => rfl); (case hb => (repeat (first | exact mhd _ | apply mtl))); (case hfit => exact nle rfl); (case hov => ((repeat (first | with_reducible exact ov_nil | apply ov_cons)); done)); (case hu => repeat (first | exact Upd.here _ _ | apply Upd.there))) | fail)
            refine v_call (μ1 := []) rfl (qcc _) (List.Perm.refl _) rfl ?_
            rintro _ G4 _ hle4 ⟨rfl, rfl⟩
            repeat' (first | (apply v_read; (case hop => (apply r_loadNo; (case hx => rfl); (case h => repeat (first | exact mhd _ | apply mtl)); (case hd => rfl); (case hn => rfl))); (case hd => rfl)) | apply v_seq | apply v_region | apply v_nil | (apply v_take; (case hg => rfl)) | (apply v_pure; (case hop => first | (apply p_move <;> rfl) | (apply p_eqs <;> rfl) | (apply p_ne <;> rfl) | (apply p_assign <;> rfl) | (apply p_build; (case hz => rfl); (case hv => (simp only [List.map_cons, List.map_nil]; repeat (with_reducible exact evs_nil))); (case hb => (apply bldL; repeat (exact bld_nil)))) | fail); (case hd => rfl)) | (apply v_cond; (case hc => rfl); all_goals (intro h; (try simp only [reduceCtorEq, zzz] at h); first | (exfalso; omega) | skip)) | fail)
            refine v_call (μ1 := []) rfl (refWSame_s (hv3.up hle4) (ImV.zero G4)) (List.Perm.refl _) rfl ?_
            rintro _ G6 _ - ⟨hG6, rfl, b6, rfl, h6⟩
            subst hG6
            obtain rfl := h6 rfl
            repeat' (first | (apply v_take; (case hg => rfl)) | (apply v_pure; (case hop => first | (apply p_move <;> rfl) | (apply p_pickT <;> rfl) | fail); (case hd => rfl)) | fail)
            refine v_call (μ1 := []) rfl (qa _ (GH.le_trans hle2 (GH.le_trans hle3 hle4))) (List.Perm.refl _) rfl ?_
            rintro _ G9 _ - ⟨rfl, rfl⟩
            repeat' (first | apply v_nil | (apply v_pure; (case hop => first | (apply p_assign <;> rfl) | (apply p_pickT <;> rfl) | fail); (case hd => rfl)) | fail)
            refine v_ret [] (outsA1 rfl rfl) (by repeat (exact List.nil_sublist _)) ?_
            rfl
      · rw [decide_eq_false hP] at qc
        rw [if_neg hP] at qw
        rw [if_pos hP] at qA
        repeat' (first | (apply v_read; (case hop => (apply r_loadNo; (case hx => rfl); (case h => repeat (first | exact mhd _ | apply mtl)); (case hd => rfl); (case hn => rfl))); (case hd => rfl)) | apply v_seq | apply v_region | apply v_nil | apply v_skip | (apply v_pure; (case hop => first | (apply p_move <;> rfl) | (apply p_eq <;> rfl) | (apply p_assign <;> rfl) | (apply p_pickF <;> rfl) | (apply p_neB <;> rfl) | fail); (case hd => rfl)) | (apply v_condF; (case hc => rfl)) | (apply v_cond; (case hc => rfl); all_goals (intro h; (try simp only [reduceCtorEq, zzz] at h); first | (exfalso; omega) | skip)) | (apply v_callJ (hs := qc); (case ha => rfl); (case hd => rfl)) | (apply v_callJ (hs := qw); (case ha => rfl); (case hd => rfl)) | fail)
        refine v_call (μ1 := []) rfl qA (List.Perm.refl _) rfl ?_
        rintro _ G3 _ hle3 ⟨rfl, v3, rfl, hv3⟩
        obtain ⟨C3, cc3, A3, c3, A3', c3', rfl, -, -, -⟩ := id hv3
        repeat' (first | (apply v_alloc (d := 6); (case hz => rfl); (case hd => rfl); intro b6) | (apply v_alloc (d := 7); (case hz => rfl); (case hd => rfl); intro b7) | (apply v_read; (case hop => (apply r_loadNo; (case hx => rfl); (case h => repeat (first | exact mhd _ | apply mtl)); (case hd => rfl); (case hn => rfl))); (case hd => rfl)) | apply v_seq | apply v_region | apply v_nil | (apply v_take; (case hg => rfl)) | (apply v_pure; (case hop => first | (apply p_move <;> rfl) | (apply p_eqs <;> rfl) | (apply p_assign <;> rfl) | (apply p_not <;> rfl) | (apply p_extract0 <;> rfl) | (apply p_extract1 <;> rfl) | (apply p_extract2 <;> rfl) | (apply p_build; (case hz => rfl); (case hv => (simp only [List.map_cons, List.map_nil]; repeat (with_reducible exact evs_nil))); (case hb => (apply bldL; repeat (exact bld_nil)))) | fail); (case hd => rfl)) | (apply v_condT; (case hc => rfl)) | (apply v_store; (case hp => rfl); (case hx => rfl); (case hc => rfl); (case hsz => rfl); (case h1 => rfl); (case hb => (repeat (first | exact mhd _ | apply mtl))); (case hfit => exact nle rfl); (case hov => ((repeat (first | with_reducible exact ov_nil | apply ov_cons)); done)); (case hu => repeat (first | exact Upd.here _ _ | apply Upd.there))) | fail)
        refine v_call (μ1 := []) rfl (refWSame_s hv3 (ImV.zero G3)) (List.Perm.refl _) rfl ?_
        rintro _ G4 _ - ⟨hG4, rfl, b4, rfl, h4⟩
        subst hG4
        obtain rfl := h4 rfl
        repeat' (first | (apply v_read; (case hop => (apply r_loadNo; (case hx => rfl); (case h => repeat (exact mhd _)); (case hd => rfl); (case hn => rfl))); (case hd => rfl)) | (apply v_pure; (case hop => (apply eqAn (x := zA) (y := zA) rfl; (case hx => rfl); (case hy => rfl))); (case hd => rfl)) | (apply v_take; (case hg => rfl)) | (apply v_pure; (case hop => first | (apply p_move <;> rfl) | (apply p_pickT <;> rfl) | (apply p_build; (case hz => rfl); (case hv => (simp only [List.map_cons, List.map_nil]; repeat (with_reducible exact evs_nil))); (case hb => (apply bldL; repeat (exact bld_nil)))) | fail); (case hd => rfl)) | fail)
        refine v_call (μ1 := []) rfl (qa _ (GH.le_trans hle2 hle3)) (List.Perm.refl _) rfl ?_
        rintro _ G9 _ - ⟨rfl, rfl⟩
        repeat' (first | apply v_nil | (apply v_pure; (case hop => first | (apply p_assign <;> rfl) | (apply p_pickT <;> rfl) | fail); (case hd => rfl)) | fail)
        refine v_ret [] (outsA1 rfl rfl) (by repeat (exact List.nil_sublist _)) ?_
        rfl
theorem clos_laid : laidOutB Tryz.prog = true := by kernel_rfl
theorem clos_rowed : mapsRowed Tryz.prog = true := by kernel_rfl
theorem clos_heard : Tryz.prog.stopsHeard = true := by kernel_rfl
theorem clos_may : Tryz.prog.mayEnter = true := by kernel_rfl
theorem clos_lifts : (Rows.specAppRow.lifted == Tryz.prog.liftsFinal) = true := by kernel_rfl
theorem clos_make : (Tryz.prog.make == some Rows.specAppRow.make) = true := by kernel_rfl
theorem clos_plain : (Rows.specAppRow.plainKeys == Tryz.prog.plainKeys) = true := by kernel_rfl
theorem clos_main : Tryz.prog.mainIs = some (true, "fd00f198de0f1bbff99678f964db4a91607ae39a2c1c259642fb503572231bd3".toList) := by kernel_rfl
theorem clos_looks : true = Tryz.prog.looks [] := by kernel_rfl
theorem windowApplies_own : ownKnob Tryz.prog.godebug = none := by kernel_rfl
theorem windowApplies_laidOut : laidOutB Tryz.prog = true := clos_laid
theorem windowApplies_spec : LawSpec Rows.windowAppliesSpec 2 := ⟨rfl, fun H ds h => by match ds, h with | [d0, d1], _ => rfl⟩
set_option maxRecDepth 100000 in
theorem windowApplies_lifted (os : Os) (started : os.Started) (H : Type) (enc : TypeId × Value → H) :
    ReturnsInHanded {} Tryz.checked os 6 .any (fun w args => (Rows.windowAppliesSpec.pre enc Tryz.prog Tryz.f6 Rows.windowAppliesRow.domain false w args ∧ laidMetH Tryz.prog tabsLaid w) ∧ sizedMet enc Tryz.prog Tryz.f6 (OpenSpec.ofChange Rows.windowAppliesSpec) false w args)
      (Rows.windowAppliesSpec.post enc Tryz.prog Tryz.f6 false true false false) := by
  refine returnsInHanded_of_change_and (C := Tryz.checked) (X := fun w _ => laidMetH Tryz.prog tabsLaid w) (fun _ _ _ hh h => h.of_heap hh) windowApplies_own started (by kernel_rfl) Tryz.func6
    (ChangeSpec.witness_shaped (enc := enc) (C := Tryz.checked) (os := os) (X := fun w _ => laidMetH Tryz.prog tabsLaid w) false (World.laidAll Tryz.prog os tabsLaid) #[.agg #[.int .i64 0, .int .i64 0, .slice none 0 0, .int .i64 0, .slice none 0 0, .slice none 0 0], .agg #[.int .i64 0, .int .i64 0, .int .i64 0, .string ByteArray.empty, .string ByteArray.empty, .string ByteArray.empty, .int .i64 0]] 8 (World.laidAll_os _ _ _)
      (World.shaped_of_ZipB (by kernel_rfl) (by kernel_rfl)) (by kernel_rfl) (by kernel_rfl) (by kernel_rfl)
      (by rw [MakeChecks.laidMetH_plain _ _ _ tabs_plain]; exact laidMet_laidAll _ (by kernel_rfl) (by kernel_rfl))) ?_
  intro W base args ds gs before hval0 hW hcnd _ hL _
  have hval : ∀ (j : Nat) t v, Tryz.f6.params[j]? = some t → args[j]? = some v → Value.okWide Tryz.prog W .any base t v := hval0
  refine law_post windowApplies_laidOut Tryz.underlying4 rfl windowApplies_spec rfl (by kernel_rfl) hW ?_
  obtain ⟨p, q, hA0, hV, rfl, hfz, hnd⟩ := hW
  have hA : DataW.TrodAll enc Tryz.prog W 0 (fun _ => true) true Tryz.f6.params.toList args.toList ds p := hA0
  rw [Tryz.params6] at hA hval
  obtain ⟨v0, vs0, d0, ds0, p0, q0, hargs, rfl, rfl, h0, r0⟩ := trodAll_cons hA
  obtain ⟨v1, vs1, d1, ds1, p1, q1, rfl, rfl, rfl, h1, r1⟩ := trodAll_cons r0
  obtain ⟨rfl, rfl, rfl⟩ := trodAll_nil r1
  obtain rfl : args = #[v0, v1] := by cases args; simp_all
  have g0 := arg_t47 (hval 0 47 v0 rfl rfl) h0
  have g1 := arg_t28 (hval 1 28 v1 rfl rfl) h1
  exact windowApplies_law (tabs_of_laid hL) g0 g1
theorem windowApplies_c_inPlace : (Rows.windowAppliesRow.inPlace == Tryz.prog.inPlace 6) = true := by kernel_rfl
theorem windowApplies_c_unfollowed : (Rows.windowAppliesRow.unfollowed == Tryz.prog.unfollowed 6) = true := by kernel_rfl
theorem windowApplies_c_recurses : (Rows.windowAppliesRow.recurses == Tryz.prog.recurses 6) = true := by kernel_rfl
theorem windowApplies_c_named : (Rows.windowAppliesRow.named == Tryz.prog.varsNamed 6) = true := by kernel_rfl
theorem windowApplies_c_lifted : (Rows.windowAppliesRow.lifted == Tryz.prog.liftsFinal) = true := clos_lifts
theorem windowApplies_c_make : (Tryz.prog.make == some Rows.windowAppliesRow.make) = true := clos_make
theorem windowApplies_c_plainKeys : (Rows.windowAppliesRow.plainKeys == Tryz.prog.plainKeys) = true := clos_plain
theorem windowApplies_closed : joinedFacts Tryz.prog 6 Tryz.f6 Rows.windowAppliesSpec Rows.windowAppliesRow = true := by
  unfold joinedFacts
  rw [clos_laid, clos_rowed, clos_heard, clos_may, windowApplies_c_inPlace, windowApplies_c_unfollowed, windowApplies_c_recurses, windowApplies_c_named, windowApplies_c_lifted, windowApplies_c_make, windowApplies_c_plainKeys]
  kernel_rfl
theorem windowApplies_over : Rows.windowAppliesRow.holds Tryz.pinned (OpenSpec.ofChange Rows.windowAppliesSpec) :=
  OpenClaim.holds_of_wide 6 Tryz.f6 rfl rfl rfl rfl rfl rfl rfl ⟨rfl, rfl, rfl, rfl, rfl⟩ rfl rfl rfl rfl rfl (by kernel_rfl) Tryz.func6 windowApplies_closed
    (of_decide_eq_true (by kernel_rfl)) (by unfold Func.isWrapper; (rw [if_neg (by decide +kernel)]; exact ⟨rfl, rfl⟩))
    (fun os started H enc _ => windowApplies_lifted os started H enc)
theorem windowApplies_holds : Rows.WindowAppliesSaid := windowApplies_over
theorem windowApplies_c_wft : Rows.windowAppliesRow.wfByText (OpenSpec.ofChange Rows.windowAppliesSpec) = true := by kernel_rfl
theorem windowApplies_c_func : Tryz.prog.funcNamed Rows.windowAppliesRow.func = some 6 := by kernel_rfl
theorem windowApplies_c_stand : ([47, 28].all fun u => !Tryz.prog.wantsStandIn u) = true := by kernel_rfl
theorem windowApplies_c_goes : false = Rows.windowAppliesRow.goesBy Tryz.prog := by kernel_rfl
theorem windowAppliesCard_holds : Rows.WindowAppliesCardSaid :=
  Claim7.holds_tied_plain_at .later [] [.data, .pinned] true (true, "fd00f198de0f1bbff99678f964db4a91607ae39a2c1c259642fb503572231bd3") true windowApplies_holds (fun _ h => by cases h) windowApplies_c_wft (fun _ h => by cases h) windowApplies_row_tie rfl ⟨rfl, rfl⟩ clos_main rfl
    (fun f fn hf hfn => by
      obtain rfl : f = 6 := Option.some.inj (windowApplies_c_func.symm.trans hf) |>.symm
      obtain rfl : fn = Tryz.f6 := (Option.some.inj (Tryz.func6.symm.trans hfn)).symm
      exact ⟨clos_looks, fun j t ht => by
        rw [Tryz.params6] at ht
        have hm : t ∈ [47, 28] := by simpa using Array.mem_of_getElem? ht
        exact (show Tryz.prog.wantsStandIn t = false by simpa using List.all_eq_true.1 windowApplies_c_stand t hm)⟩)
    windowApplies_c_goes
end Go.Proofs.YtmdeeokejdkceaaGreatDoor
