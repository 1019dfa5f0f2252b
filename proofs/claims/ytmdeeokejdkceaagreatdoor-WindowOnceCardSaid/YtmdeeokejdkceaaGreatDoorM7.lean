/-
  The reference 30: Run.
-/
import Derived.Test.YtmdeeokejdkceaaGreatDoorM6
import Derived.Test.YtmdeeokejdkceaaGreatDoorM4
import Derived.Lib.LaidU8T
import Derived.MakeChecks
import Derived.Test.YtmdeeokejdkceaaGreatDoorRows
import Derived.Test.YtmdeeokejdkceaaGreatDoorM1
import Derived.Test.YtmdeeokejdkceaaGreatDoorChecked
import Derived.JoinedOf
import Derived.SevenTiedAt
import Derived.LaidMore
import Derived.Lay
import Derived.Test.YtmdeeokejdkceaaGreatDoorTie
import Derived.Test.YtmdeeokejdkceaaGreatDoorCards
import Derived.Stop.Joined
set_option linter.unusedSimpArgs false
set_option linter.unusedVariables false
namespace Go.Proofs.YtmdeeokejdkceaaGreatDoor
open Go.Vx Go.ChangeShapes Go.WideShapes Go.ChangeAt Go.RowKit
noncomputable def runW (m : Im) : List Cm → Im
  | [] => m
  | c :: l => if cmdI c ≠ 0 then runW m l else runW (nextI m c) l
abbrev imB (T : Nat) (b : Nat) (m : Im) (C : Option Addr) (cc : Nat) (A : Option Addr) (c : Nat) (A' : Option Addr) (c' : Nat) : Nat × Obj := (b, .cells [.int .i64 m.index, .int .i64 m.active, .slice C m.confs.length cc, .int .i64 m.st.schema, .slice A m.st.pairs.length c, .slice A' m.st.sess.length c'].toArray T (0, 0))
set_option maxHeartbeats 1000000 in
theorem refWRun_s {G : GH} {ml : List Int} {sv lv : Value} {l : List Cm} (hs : Sl G 1 (IntR .i64) sv ml) (hok : ConfOK [(1, ml)]) (hl : Cms G lv l) (hlw : CmsW l) :
    Con Tryz.prog 33 #[sv, lv] G [] (fun r G' μ' => ∃ v' av, r = .tuple [v', av].toArray ∧ ImV G' (runW ⟨0, 0, [(1, ml)], emp⟩ l) v') := by
  obtain ⟨LA, lc, rfl, hlc, hcm, hsome, hcp⟩ := rowOpen hl
  simp only [maxLen] at hcm
  obtain ⟨SA, sc, rfl, -⟩ := id hs.openInt
  have hm0 : ImP ⟨0, 0, [(1, ml)], emp⟩ := ⟨⟨by simp, by simp, by simp, by simp⟩, hok, emp_ok, by simp⟩
  (refine v_enter Tryz.func33 rfl Tryz.ntmps33 rfl ?_; intro B _)
  repeat' (first | (apply v_alloc (d := 4); (case hz => rfl); (case hd => rfl); intro b4) | (apply v_alloc (d := 6); (case hz => rfl); (case hd => rfl); intro b6) | (apply v_buildSlice; (case hz => rfl); (case hi => rfl); (case hv => (simp only [List.map_cons, List.map_nil]; repeat (first | with_reducible exact evs_nil | (apply evs_cons; (case h1 => rfl))))); (case hp => (apply pk_cons; (case hc => rfl); (case hs => rfl); (case h => (with_reducible exact pk_nil)); (case he => ((repeat (first | with_reducible exact ap_nil | apply ap_cons)); done)))); (case hb => rfl); (case hd => rfl); intro b9) | apply v_seq | apply v_region | apply v_nil | apply v_block | (apply v_pure; (case hop => first | (apply p_move <;> rfl) | (apply p_assign <;> rfl) | (apply p_build; (case hz => rfl); (case hv => (simp only [List.map_cons, List.map_nil]; repeat (first | with_reducible exact evs_nil | (apply evs_cons; (case h1 => rfl))))); (case hb => (apply bldL; repeat (first | exact bld_nil | (apply bld_cons; (case hpf => rfl); (case hc => rfl); (case hs => rfl); (case hl => rfl); (case ho => ((repeat (first | with_reducible exact ov_nil | apply ov_cons)); done))))))) | fail); (case hd => rfl)) | (apply v_store; (case hp => rfl); (case hx => rfl); (case hc => rfl); (case hsz => rfl); (case h1 => rfl); (case hb => (repeat (exact mhd _))); (case hfit => exact nle rfl); (case hov => ((repeat (first | with_reducible exact ov_nil | apply ov_cons)); done)); (case hu => repeat (exact Upd.here _ _))) | fail)
  refine v_frz [(b9, .cells [Value.int .i64 1, .slice SA ml.length sc].toArray 61 (0, 0))] (by repeat (first | exact PickA.here _ | apply PickA.cons)) ?_
  intro G0 hle0 hG0
  have hC := Cos.made1 (x := 1) (WalkArith.wf_i64 (by decide)) (hs.mono hle0) (hG0 _ _ (by (repeat (exact mhd _))))
  have hv0 : ImV G0 ⟨0, 0, [(1, ml)], emp⟩ _ := ImV.mk' (x := 0) (a := 0) hC (emp_v G0)
  refine v_perm (ν := [(b4, Obj.cells [.int .i64 0, .int .i64 0, .slice none 0 0, .int .i64 0, .slice none 0 0, .slice none 0 0].toArray 47 (0, 0)), (b6, .cells [.int .i64 0, .int .i64 0, .slice (some ⟨b9, 0, none⟩) 1 1, .int .i64 1, .slice none 0 0, .slice none 0 0].toArray 47 (0, 0))]) (by apply perm_of_count; intro p; simp only [List.append_eq, List.countP_append, List.countP_cons, List.countP_nil, Nat.zero_add, Nat.add_zero]; try ac_rfl) ?_
  generalize hmm : (⟨0, 0, [(1, ml)], emp⟩ : Im) = m0 at *
  refine v_loop [8, 6, 1, 7, 4] (fun us G' μ' => GH.le G0 G' ∧ ∃ (k : Nat) (m1 : Im) (C1 : Option Addr) (cc1 : Nat) (A1 : Option Addr) (c1 : Nat) (A1' : Option Addr) (c1' : Nat) (acc : List An) (av : Value) (ν : OH), k ≤ l.length ∧ us = [Value.int .i64 (k : Nat), .pointer (some ⟨b6, 0, none⟩), .slice LA l.length lc, av, .pointer (some ⟨b4, 0, none⟩)] ∧ μ' = (b4, Obj.cells [.int .i64 0, .int .i64 0, .slice none 0 0, .int .i64 0, .slice none 0 0, .slice none 0 0].toArray 47 (0, 0)) :: imB 47 b6 m1 C1 cc1 A1 c1 A1' c1' :: ν ∧ GrA av acc ν ∧ ImV G' m1 (.agg [.int .i64 m1.index, .int .i64 m1.active, .slice C1 m1.confs.length cc1, .int .i64 m1.st.schema, .slice A1 m1.st.pairs.length c1, .slice A1' m1.st.sess.length c1'].toArray) ∧ ImP m1 ∧ m1.index ≤ k ∧ m1.confs.length ≤ k + 1 ∧ acc.length ≤ k ∧ runW m0 l = runW m1 (l.drop k)) (fun us => l.length - (headI us).toNat) rfl ?_ ?_
  · subst hmm
    exact ⟨GH.le_refl _, 0, ⟨0, 0, [(1, ml)], emp⟩, some ⟨b9, 0, none⟩, 1, none, 0, none, 0, [], .slice none 0 0, [], by omega, rfl, rfl, Grow.nil _ _, hv0, hm0, by simp, by simp, Nat.le_refl _, rfl⟩
  rintro us G' _ ⟨hle, k, m1, C1, cc1, A1, c1, A1', c1', acc, av, ν, hk, rfl, rfl, hga, hm1, hok1, hix, hcl, hak, hrun⟩
  have hn := hlw.1
  by_cases hlt : k < l.length
  · have e1 : ((k : Nat) : Int).toNat = k := by omega
    have hA := hsome (by omega)
    have hle' := GH.le_trans hle0 hle
    have hck := (rowOpen' (hl.mono hle')).2.2.2.2.2.2 k hlt
    have hck2 := fun G2 (h2 : GH.le G' G2) => (rowOpen' (hl.mono (GH.le_trans hle' h2))).2.2.2.2.2.2 k hlt
    obtain ⟨hxo, hxw⟩ := hlw.2 _ (List.getElem_mem hlt)
    have hcc := refCmdCheck_s (G := G') (l[k]) hxo
    have hco := hok1.2.1.coZ (by omega)
    have hap := fun G2 (h2 : GH.le G' G2) (h0 : cmdI l[k] = 0) => refWApply_s (hm1.up h2) hok1 (by omega) hco (l[k]) h0 hxo hxw.1
    have hnx : runW m0 l = if cmdI l[k] ≠ 0 then runW m1 (l.drop (k + 1)) else runW (nextI m1 l[k]) (l.drop (k + 1)) := by
      rw [hrun, List.drop_eq_getElem_cons hlt]; rfl
    have hkp : cmdI l[k] = 0 → ImP (nextI m1 l[k]) ∧ (nextI m1 l[k]).index ≤ (k : Int) + 1 ∧ (nextI m1 l[k]).confs.length ≤ k + 1 + 1 := fun h => ⟨nextI_ok hok1 (by omega) h, by show m1.index + 1 ≤ _; omega, by have := nextI_len (c := l[k]) hok1 (by omega); omega⟩
    clear hrun hxo hxw hco
    generalize applyS m1.st l[k] = ap at *
    obtain ⟨s5, ⟨ac, aq, ae, af, av5, ar⟩, e5⟩ := ap
    generalize nextI m1 l[k] = m5 at *
    generalize l[k] = x at *
    generalize cmdI x = ci at *
    obtain ⟨kind, cl, seq, key, val, old, node⟩ := x
    simp only at *
    repeat' (first | apply v_seq | apply v_region | apply v_nil | apply v_skip | apply v_block | (apply v_pure; (case hop => first | (apply p_move <;> rfl) | (apply p_lt <;> rfl) | (apply p_lenSlice <;> rfl) | (apply p_indexAddrS; (case hx => rfl); (case hi => rfl); (case h0 => omega); (case h => omega); (case hA => assumption)) | fail); (case hd => rfl)) | (apply v_cond; (case hc => rfl); all_goals (intro h; (try simp only [reduceCtorEq, zzz] at h); first | (exfalso; omega) | skip)) | (apply v_read; (case hop => (apply r_loadN; rfl; exact CellsAt.frozen hck; rfl)); (case hd => rfl)) | fail)
    refine v_call (μ1 := []) rfl hcc (List.Perm.refl _) rfl ?_
    rintro _ G5 _ hle5 ⟨rfl, rfl⟩
    have hck5 := hck2 G5 hle5
    have hap5 := hap G5 hle5
    repeat' (first | apply v_seq | apply v_region | apply v_nil | apply v_skip | (apply v_exit; (case hp => rfl)) | (apply v_pure; (case hop => first | (apply p_move <;> rfl) | (apply p_ne <;> rfl) | (apply p_assign <;> rfl) | (apply p_add; (case hx => rfl); (case hy => rfl); (case h => omega)) | fail); (case hd => rfl)) | (apply v_cond; (case hc => rfl); all_goals (intro h; (try simp only [reduceCtorEq, zzz] at h))) | fail)
    · rw [if_pos (by assumption)] at hnx
      exact v_again rfl ⟨GH.le_trans hle hle5, k + 1, m1, C1, cc1, A1, c1, A1', c1', acc, av, ν, by omega, rfl, rfl, hga, hm1.up hle5, hok1, by omega, by omega, by omega, hnx⟩ (by simp [headI]; omega)
    · have hci : ci = 0 := by assumption
      rw [if_neg (by simp [hci])] at hnx
      have hap6 := hap5 hci
      obtain ⟨hk5, hi5, hl5⟩ := hkp hci
      refine d_start [imB 47 b6 m1 C1 cc1 A1 c1 A1' c1'] (by kernel_rfl) (by kernel_rfl) (by kernel_rfl) (by intro e he; (simp at he; simp [he]; done)) ?_
      all_goals (apply dtk 0; (case hi => rfl); (case hop => (apply r_loadNo; (case hx => rfl); (case h => (repeat (exact mhd _))); (case hd => (repeat (first | with_reducible exact dt_nil | apply dt_here))); (case hn => rfl))); (case hq => kernel_rfl))
      all_goals (apply dtk 1; (case hi => rfl); (case hop => (apply prd; apply p_move <;> rfl)); (case hq => kernel_rfl))
      all_goals (apply dtk 2; (case hi => rfl); (case hop => (apply prd; apply p_move <;> rfl)); (case hq => kernel_rfl))
      all_goals (apply dtk 3; (case hi => rfl); (case hop => (apply prd; apply p_indexAddrS; (case hx => rfl); (case hi => rfl); (case h0 => omega); (case h => omega); (case hA => assumption))); (case hq => kernel_rfl))
      all_goals (apply dtk 4; (case hi => rfl); (case hop => ((apply r_loadN; rfl; exact CellsAt.frozen hck5; rfl))); (case hq => kernel_rfl))
      focus
        refine d_fork3 5 9 10 (by kernel_rfl) ?_ ?_ ?_
        rotate_right
        focus
          (apply x_exec (d := 10) 10; (case hi => rfl);  (case hop => exact m_alloc rfl); (case hd => rfl); rintro _ G0 _ ⟨b10, rfl, hG0, rfl⟩; subst G0; refine ⟨(by intro e he; simp only [List.mem_cons, List.not_mem_nil, or_false] at he; rcases he with rfl; simp), ?_⟩)
          focus
            refine d_fork 5 9 (by kernel_rfl) ?_ ?_
            rotate_right
            focus
              (apply x_exec (d := 9) 9; (case hi => rfl);  (case hop => exact m_alloc rfl); (case hd => rfl); rintro _ G0 _ ⟨b9, rfl, hG0, rfl⟩; subst G0; refine ⟨(by intro e he; simp only [List.mem_cons, List.not_mem_nil, or_false] at he; rcases he with rfl; simp), ?_⟩)
              all_goals ((apply d_call 5 (hs := hap6) (μ1 := []); (case hi => rfl); (case hr => kernel_rfl);  (case ha => rfl); (case hp => exact List.Perm.refl _); (case hd => rfl); (case hν' => intro e he; simp only [List.mem_cons, List.not_mem_nil, or_false] at he; rcases he with rfl; simp); rintro _ G6 _ hle6 ⟨rfl, v6, rfl, hm6⟩; obtain ⟨C6, cc6, A6, c6, A6', c6', rfl, hC6, hp6, hss6⟩ := id hm6))
              all_goals (apply dtk 6; (case hi => rfl); (case hop => (apply prd; apply p_move <;> rfl)); (case hq => kernel_rfl))
              all_goals (apply dtk 7; (case hi => rfl); (case hop => (apply prd; apply p_extract0 <;> rfl)); (case hq => kernel_rfl))
              all_goals (apply dtk 8; (case hi => rfl); (case hop => (apply prd; apply p_extract1 <;> rfl)); (case hq => kernel_rfl))
              all_goals (apply d_store 11; (case hi => rfl); (case hr => kernel_rfl); (case hL => infer_instance); (case hp => rfl); (case hx => rfl); (case hc => rfl); (case hsz => rfl); (case h1 => rfl); (case hb => (repeat (exact mhd _))); (case hfit => exact nle rfl); (case hov => ((repeat (first | with_reducible exact ov_nil | apply ov_cons)); done)); (case hu => repeat (exact Upd.here _ _)); (case hν' => intro e he; (simp at he; simp [he]; done)))
              all_goals (apply d_store 12; (case hi => rfl); (case hr => kernel_rfl); (case hL => infer_instance); (case hp => rfl); (case hx => rfl); (case hc => rfl); (case hsz => rfl); (case h1 => rfl); (case hb => (repeat (first | exact mhd _ | apply mtl))); (case hfit => exact nle rfl); (case hov => ((repeat (first | with_reducible exact ov_nil | apply ov_cons)); done)); (case hu => repeat (first | exact Upd.here _ _ | apply Upd.there)); (case hν' => intro e he; (simp at he; simp [he]; done)))
              all_goals (apply d_done; (case hr => kernel_rfl))
            rotate_right
            focus
              (apply x_call 5 (hs := hap6) (μ1 := []); (case hi => rfl);  (case ha => rfl); (case hp => exact List.Perm.refl _); (case hd => rfl); (case hν' => intro e he; simp only [List.mem_cons, List.not_mem_nil, or_false] at he; rcases he with rfl; simp); rintro _ G6 _ hle6 ⟨rfl, v6, rfl, hm6⟩; obtain ⟨C6, cc6, A6, c6, A6', c6', rfl, hC6, hp6, hss6⟩ := id hm6)
              all_goals (apply dtk 6; (case hi => rfl); (case hop => (apply prd; apply p_move <;> rfl)); (case hq => kernel_rfl))
              all_goals (apply dtk 7; (case hi => rfl); (case hop => (apply prd; apply p_extract0 <;> rfl)); (case hq => kernel_rfl))
              all_goals (apply dtk 8; (case hi => rfl); (case hop => (apply prd; apply p_extract1 <;> rfl)); (case hq => kernel_rfl))
              all_goals ((apply d_exec (d := 9) 9; (case hi => rfl); (case hr => kernel_rfl);  (case hop => exact m_alloc rfl); (case hd => rfl); rintro _ G0 _ ⟨b9, rfl, hG0, rfl⟩; subst G0; refine ⟨(by intro e he; simp only [List.mem_cons, List.not_mem_nil, or_false] at he; rcases he with rfl; simp), ?_⟩))
              all_goals (apply d_store 11; (case hi => rfl); (case hr => kernel_rfl); (case hL => infer_instance); (case hp => rfl); (case hx => rfl); (case hc => rfl); (case hsz => rfl); (case h1 => rfl); (case hb => (repeat (exact mhd _))); (case hfit => exact nle rfl); (case hov => ((repeat (first | with_reducible exact ov_nil | apply ov_cons)); done)); (case hu => repeat (exact Upd.here _ _)); (case hν' => intro e he; (simp at he; simp [he]; done)))
              all_goals (apply d_store 12; (case hi => rfl); (case hr => kernel_rfl); (case hL => infer_instance); (case hp => rfl); (case hx => rfl); (case hc => rfl); (case hsz => rfl); (case h1 => rfl); (case hb => (repeat (first | exact mhd _ | apply mtl))); (case hfit => exact nle rfl); (case hov => ((repeat (first | with_reducible exact ov_nil | apply ov_cons)); done)); (case hu => repeat (first | exact Upd.here _ _ | apply Upd.there)); (case hν' => intro e he; (simp at he; simp [he]; done)))
              all_goals (apply d_done; (case hr => kernel_rfl))
        rotate_right
        focus
          (apply x_exec (d := 9) 9; (case hi => rfl);  (case hop => exact m_alloc rfl); (case hd => rfl); rintro _ G0 _ ⟨b9, rfl, hG0, rfl⟩; subst G0; refine ⟨(by intro e he; simp only [List.mem_cons, List.not_mem_nil, or_false] at he; rcases he with rfl; simp), ?_⟩)
          focus
            refine d_fork 5 10 (by kernel_rfl) ?_ ?_
            rotate_right
            focus
              (apply x_exec (d := 10) 10; (case hi => rfl);  (case hop => exact m_alloc rfl); (case hd => rfl); rintro _ G0 _ ⟨b10, rfl, hG0, rfl⟩; subst G0; refine ⟨(by intro e he; simp only [List.mem_cons, List.not_mem_nil, or_false] at he; rcases he with rfl; simp), ?_⟩)
              all_goals ((apply d_call 5 (hs := hap6) (μ1 := []); (case hi => rfl); (case hr => kernel_rfl);  (case ha => rfl); (case hp => exact List.Perm.refl _); (case hd => rfl); (case hν' => intro e he; simp only [List.mem_cons, List.not_mem_nil, or_false] at he; rcases he with rfl; simp); rintro _ G6 _ hle6 ⟨rfl, v6, rfl, hm6⟩; obtain ⟨C6, cc6, A6, c6, A6', c6', rfl, hC6, hp6, hss6⟩ := id hm6))
              all_goals (apply dtk 6; (case hi => rfl); (case hop => (apply prd; apply p_move <;> rfl)); (case hq => kernel_rfl))
              all_goals (apply dtk 7; (case hi => rfl); (case hop => (apply prd; apply p_extract0 <;> rfl)); (case hq => kernel_rfl))
              all_goals (apply dtk 8; (case hi => rfl); (case hop => (apply prd; apply p_extract1 <;> rfl)); (case hq => kernel_rfl))
              all_goals (apply d_store 11; (case hi => rfl); (case hr => kernel_rfl); (case hL => infer_instance); (case hp => rfl); (case hx => rfl); (case hc => rfl); (case hsz => rfl); (case h1 => rfl); (case hb => (repeat (first | exact mhd _ | apply mtl))); (case hfit => exact nle rfl); (case hov => ((repeat (first | with_reducible exact ov_nil | apply ov_cons)); done)); (case hu => repeat (first | exact Upd.here _ _ | apply Upd.there)); (case hν' => intro e he; (simp at he; simp [he]; done)))
              all_goals (apply d_store 12; (case hi => rfl); (case hr => kernel_rfl); (case hL => infer_instance); (case hp => rfl); (case hx => rfl); (case hc => rfl); (case hsz => rfl); (case h1 => rfl); (case hb => (repeat (exact mhd _))); (case hfit => exact nle rfl); (case hov => ((repeat (first | with_reducible exact ov_nil | apply ov_cons)); done)); (case hu => repeat (exact Upd.here _ _)); (case hν' => intro e he; (simp at he; simp [he]; done)))
              all_goals (apply d_done; (case hr => kernel_rfl))
            rotate_right
            focus
              (apply x_call 5 (hs := hap6) (μ1 := []); (case hi => rfl);  (case ha => rfl); (case hp => exact List.Perm.refl _); (case hd => rfl); (case hν' => intro e he; simp only [List.mem_cons, List.not_mem_nil, or_false] at he; rcases he with rfl; simp); rintro _ G6 _ hle6 ⟨rfl, v6, rfl, hm6⟩; obtain ⟨C6, cc6, A6, c6, A6', c6', rfl, hC6, hp6, hss6⟩ := id hm6)
              all_goals (apply dtk 6; (case hi => rfl); (case hop => (apply prd; apply p_move <;> rfl)); (case hq => kernel_rfl))
              all_goals (apply dtk 7; (case hi => rfl); (case hop => (apply prd; apply p_extract0 <;> rfl)); (case hq => kernel_rfl))
              all_goals (apply dtk 8; (case hi => rfl); (case hop => (apply prd; apply p_extract1 <;> rfl)); (case hq => kernel_rfl))
              all_goals ((apply d_exec (d := 10) 10; (case hi => rfl); (case hr => kernel_rfl);  (case hop => exact m_alloc rfl); (case hd => rfl); rintro _ G0 _ ⟨b10, rfl, hG0, rfl⟩; subst G0; refine ⟨(by intro e he; simp only [List.mem_cons, List.not_mem_nil, or_false] at he; rcases he with rfl; simp), ?_⟩))
              all_goals (apply d_store 11; (case hi => rfl); (case hr => kernel_rfl); (case hL => infer_instance); (case hp => rfl); (case hx => rfl); (case hc => rfl); (case hsz => rfl); (case h1 => rfl); (case hb => (repeat (first | exact mhd _ | apply mtl))); (case hfit => exact nle rfl); (case hov => ((repeat (first | with_reducible exact ov_nil | apply ov_cons)); done)); (case hu => repeat (first | exact Upd.here _ _ | apply Upd.there)); (case hν' => intro e he; (simp at he; simp [he]; done)))
              all_goals (apply d_store 12; (case hi => rfl); (case hr => kernel_rfl); (case hL => infer_instance); (case hp => rfl); (case hx => rfl); (case hc => rfl); (case hsz => rfl); (case h1 => rfl); (case hb => (repeat (exact mhd _))); (case hfit => exact nle rfl); (case hov => ((repeat (first | with_reducible exact ov_nil | apply ov_cons)); done)); (case hu => repeat (exact Upd.here _ _)); (case hν' => intro e he; (simp at he; simp [he]; done)))
              all_goals (apply d_done; (case hr => kernel_rfl))
        rotate_right
        focus
          (apply x_call 5 (hs := hap6) (μ1 := []); (case hi => rfl);  (case ha => rfl); (case hp => exact List.Perm.refl _); (case hd => rfl); (case hν' => intro e he; simp only [List.mem_cons, List.not_mem_nil, or_false] at he; rcases he with rfl; simp); rintro _ G6 _ hle6 ⟨rfl, v6, rfl, hm6⟩; obtain ⟨C6, cc6, A6, c6, A6', c6', rfl, hC6, hp6, hss6⟩ := id hm6)
          all_goals (apply dtk 6; (case hi => rfl); (case hop => (apply prd; apply p_move <;> rfl)); (case hq => kernel_rfl))
          all_goals (apply dtk 7; (case hi => rfl); (case hop => (apply prd; apply p_extract0 <;> rfl)); (case hq => kernel_rfl))
          all_goals (apply dtk 8; (case hi => rfl); (case hop => (apply prd; apply p_extract1 <;> rfl)); (case hq => kernel_rfl))
          focus
            refine d_fork 9 10 (by kernel_rfl) ?_ ?_
            rotate_right
            focus
              (apply x_exec (d := 10) 10; (case hi => rfl);  (case hop => exact m_alloc rfl); (case hd => rfl); rintro _ G0 _ ⟨b10, rfl, hG0, rfl⟩; subst G0; refine ⟨(by intro e he; simp only [List.mem_cons, List.not_mem_nil, or_false] at he; rcases he with rfl; simp), ?_⟩)
              all_goals ((apply d_exec (d := 9) 9; (case hi => rfl); (case hr => kernel_rfl);  (case hop => exact m_alloc rfl); (case hd => rfl); rintro _ G0 _ ⟨b9, rfl, hG0, rfl⟩; subst G0; refine ⟨(by intro e he; simp only [List.mem_cons, List.not_mem_nil, or_false] at he; rcases he with rfl; simp), ?_⟩))
              all_goals (apply d_store 11; (case hi => rfl); (case hr => kernel_rfl); (case hL => infer_instance); (case hp => rfl); (case hx => rfl); (case hc => rfl); (case hsz => rfl); (case h1 => rfl); (case hb => (repeat (exact mhd _))); (case hfit => exact nle rfl); (case hov => ((repeat (first | with_reducible exact ov_nil | apply ov_cons)); done)); (case hu => repeat (exact Upd.here _ _)); (case hν' => intro e he; (simp at he; simp [he]; done)))
              all_goals (apply d_store 12; (case hi => rfl); (case hr => kernel_rfl); (case hL => infer_instance); (case hp => rfl); (case hx => rfl); (case hc => rfl); (case hsz => rfl); (case h1 => rfl); (case hb => (repeat (first | exact mhd _ | apply mtl))); (case hfit => exact nle rfl); (case hov => ((repeat (first | with_reducible exact ov_nil | apply ov_cons)); done)); (case hu => repeat (first | exact Upd.here _ _ | apply Upd.there)); (case hν' => intro e he; (simp at he; simp [he]; done)))
              all_goals (apply d_done; (case hr => kernel_rfl))
            rotate_right
            focus
              (apply x_exec (d := 9) 9; (case hi => rfl);  (case hop => exact m_alloc rfl); (case hd => rfl); rintro _ G0 _ ⟨b9, rfl, hG0, rfl⟩; subst G0; refine ⟨(by intro e he; simp only [List.mem_cons, List.not_mem_nil, or_false] at he; rcases he with rfl; simp), ?_⟩)
              all_goals ((apply d_exec (d := 10) 10; (case hi => rfl); (case hr => kernel_rfl);  (case hop => exact m_alloc rfl); (case hd => rfl); rintro _ G0 _ ⟨b10, rfl, hG0, rfl⟩; subst G0; refine ⟨(by intro e he; simp only [List.mem_cons, List.not_mem_nil, or_false] at he; rcases he with rfl; simp), ?_⟩))
              all_goals (apply d_store 11; (case hi => rfl); (case hr => kernel_rfl); (case hL => infer_instance); (case hp => rfl); (case hx => rfl); (case hc => rfl); (case hsz => rfl); (case h1 => rfl); (case hb => (repeat (first | exact mhd _ | apply mtl))); (case hfit => exact nle rfl); (case hov => ((repeat (first | with_reducible exact ov_nil | apply ov_cons)); done)); (case hu => repeat (first | exact Upd.here _ _ | apply Upd.there)); (case hν' => intro e he; (simp at he; simp [he]; done)))
              all_goals (apply d_store 12; (case hi => rfl); (case hr => kernel_rfl); (case hL => infer_instance); (case hp => rfl); (case hx => rfl); (case hc => rfl); (case hsz => rfl); (case h1 => rfl); (case hb => (repeat (exact mhd _))); (case hfit => exact nle rfl); (case hov => ((repeat (first | with_reducible exact ov_nil | apply ov_cons)); done)); (case hu => repeat (exact Upd.here _ _)); (case hν' => intro e he; (simp at he; simp [he]; done)))
              all_goals (apply d_done; (case hr => kernel_rfl))
      all_goals refine v_perm (ν := (b10, .cells [.int .i64 ac, .int .i64 aq, .int .i64 ae, .bool af, .string av5, .int .i64 ar].toArray 40 (0, 0)) :: imB 47 b9 m5 C6 cc6 A6 c6 A6' c6' :: (b4, Obj.cells [.int .i64 0, .int .i64 0, .slice none 0 0, .int .i64 0, .slice none 0 0, .slice none 0 0].toArray 47 (0, 0)) :: imB 47 b6 m1 C1 cc1 A1 c1 A1' c1' :: ν) (by first | exact List.Perm.refl _ | exact List.Perm.swap _ _ _) ?_
      all_goals
        repeat' (first | (apply v_read; (case hop => (apply r_loadNo; (case hx => rfl); (case h => repeat (first | exact mhd _ | apply mtl)); (case hd => rfl); (case hn => rfl))); (case hd => rfl)) | apply v_seq | apply v_region | apply v_nil | (apply v_pure; (case hop => (apply p_move <;> rfl)); (case hd => rfl)) | (apply v_buildSlice; (case hz => rfl); (case hi => rfl); (case hv => (simp only [List.map_cons, List.map_nil]; repeat (first | with_reducible exact evs_nil | (apply evs_cons; (case h1 => rfl))))); (case hp => (apply pk_cons; (case hc => rfl); (case hs => rfl); (case h => (with_reducible exact pk_nil)); (case he => (rfl)))); (case hb => rfl); (case hd => rfl); intro b) | (apply v_store; (case hp => rfl); (case hx => rfl); (case hc => rfl); (case hsz => rfl); (case h1 => rfl); (case hb => (repeat (first | exact mhd _ | apply mtl))); (case hfit => exact nle rfl); (case hov => (rfl)); (case hu => repeat (first | exact Upd.here _ _ | apply Upd.there))) | fail)
      all_goals
        (have hpm := List.perm_append_comm (l₁ := ([(b, .cells [.int .i64 ac, .int .i64 aq, .int .i64 ae, .bool af, .string av5, .int .i64 ar].toArray 40 (0, 0)), (b10, .cells [.int .i64 ac, .int .i64 aq, .int .i64 ae, .bool af, .string av5, .int .i64 ar].toArray 40 (0, 0)), imB 47 b9 m5 C6 cc6 A6 c6 A6' c6', (b4, Obj.cells [.int .i64 0, .int .i64 0, .slice none 0 0, .int .i64 0, .slice none 0 0, .slice none 0 0].toArray 47 (0, 0)), imB 47 b6 m5 C6 cc6 A6 c6 A6' c6'] : OH)) (l₂ := ν)
         refine v_append (e := 40) (agg := true) (sz := 6) (bytes := 56) (zero := zAn) rfl (by omega) rfl rfl hga hpm (m' := 1) (us := An.cells ⟨ac, aq, ae, af, av5, ar⟩) (Src.own (e := 40) (List.Mem.head _) rfl) rfl (by omega) (by simp only [maxLen]; omega) rfl fun v' ν' hg' => ?_
         have hga' := GrA.snoc hg'
         refine v_perm (List.perm_append_comm (l₁ := ν')) ?_
         refine v_drop (ν := [(b4, Obj.cells [.int .i64 0, .int .i64 0, .slice none 0 0, .int .i64 0, .slice none 0 0, .slice none 0 0].toArray 47 (0, 0)), imB 47 b6 m5 C6 cc6 A6 c6 A6' c6'] ++ ν') (List.Sublist.cons _ (List.Sublist.cons _ (List.Sublist.cons _ (List.Sublist.refl _)))) ?_)
      all_goals
        repeat' (first | apply v_region | apply v_nil | apply v_blk | (apply v_pure; (case hop => first | (apply p_move <;> rfl) | (apply p_assign <;> rfl) | (apply p_add; (case hx => rfl); (case hy => rfl); (case h => omega)) | fail); (case hd => rfl)) | fail)
      all_goals
        exact v_again rfl ⟨GH.le_trans hle (GH.le_trans hle5 hle6), k + 1, m5, C6, cc6, A6, c6, A6', c6', _, v', ν', by omega, rfl, rfl, hga', hm6, hk5, by omega, by omega, by rw [List.length_append, List.length_singleton]; omega, hnx⟩ (by simp [headI]; omega)
  · obtain rfl : k = l.length := by omega
    rw [hrun, List.drop_length]
    repeat' (first | (apply v_read; (case hop => (apply r_loadNo; (case hx => rfl); (case h => repeat (first | exact mhd _ | apply mtl)); (case hd => rfl); (case hn => rfl))); (case hd => rfl)) | apply v_seq | apply v_region | apply v_nil | (apply v_exit; (case hp => rfl)) | (apply v_pure; (case hop => first | (apply p_move <;> rfl) | (apply p_lt <;> rfl) | (apply p_assign <;> rfl) | (apply p_lenSlice <;> rfl) | fail); (case hd => rfl)) | (apply v_cond; (case hc => rfl); all_goals (intro h; (try simp only [reduceCtorEq, zzz] at h); first | (exfalso; omega) | skip)) | (apply v_store; (case hp => rfl); (case hx => rfl); (case hc => rfl); (case hsz => rfl); (case h1 => rfl); (case hb => (repeat (exact mhd _))); (case hfit => exact nle rfl); (case hov => (rfl)); (case hu => repeat (exact Upd.here _ _))) | fail)
    refine v_retM [] (outsM_cell_tmp (sz := 6) (vs := [.int .i64 m1.index, .int .i64 m1.active, .slice C1 m1.confs.length cc1, .int .i64 m1.st.schema, .slice A1 m1.st.pairs.length c1, .slice A1' m1.st.sess.length c1']) (e := 47) rfl rfl rfl (by repeat (exact mhd _)) rfl) (List.nil_sublist _) ⟨_, _, rfl, hm1⟩
abbrev exIm : Im := ⟨0, 0, [(1, [1, 2, 3])], emp⟩
abbrev addC : Cm := ⟨7, 0, 0, ByteArray.empty, ByteArray.empty, ByteArray.empty, 4⟩
theorem addC_ok : cmdI addC = 0 := by
  rw [cmdI_eq]
  unfold cmdE
  simp
theorem exC_ok : ConfOK [(1, [1, 2, 3])] :=
  ConfOK.of ⟨by decide, rfl⟩ (by simp) (fun c hc => by simp at hc; subst hc; exact ⟨memOK_of (by decide) (by decide) (by decide), by decide⟩)
theorem exIm_ok : ImP exIm := ⟨⟨by simp, by simp, by simp, by simp⟩, exC_ok, emp_ok, by simp⟩
abbrev exN : Im := ⟨1, 0, [(1, [1, 2, 3]), (5, [1, 2, 3, 4])], emp⟩
theorem ex_app : applyS emp addC = (emp, zA, 0) := by
  unfold applyS
  rw [addC_ok]
  simp
theorem ex_next : nextI exIm addC = exN := by
  unfold nextI confsI
  rw [ex_app, if_pos ⟨.inl rfl, (changeR_zero exC_ok (by decide)).2 (by decide)⟩]
  rfl
theorem exN_ok : ImP exN := by
  have h := nextI_ok exIm_ok (by decide) addC_ok
  rw [ex_next] at h
  exact h
theorem ex_win : winS exIm addC = (exN, zA, 0) := by
  unfold winS
  rw [if_neg (fun h => h exIm_ok), if_neg (by decide), if_neg (by simp [addC_ok]), ex_next, ex_app]
theorem ex_m4 : membersI exN 4 = [1, 2, 3] := by
  unfold membersI
  rw [if_pos ⟨exN_ok, by unfold OpenP; decide⟩]
  rfl
theorem ex_m5 : membersI exN 5 = [1, 2, 3, 4] := by
  unfold membersI
  rw [if_pos ⟨exN_ok, by unfold OpenP; decide⟩]
  rfl
theorem awake30_s {G : GH} (hT : TabsG G) : Con Tryz.prog 22 #[] G [] (fun r G' μ' => r = .bool true ∧ μ' = []) := by
  have hz := emp_ok.small
  (refine v_enter Tryz.func22 rfl Tryz.ntmps22 rfl ?_; intro B _)
  repeat' (first | (apply v_buildSlice; (case hz => rfl); (case hi => rfl); (case hv => (simp only [List.map_cons, List.map_nil]; repeat (first | with_reducible exact evs_nil | (apply evs_cons; (case h1 => rfl))))); (case hp => (apply pk_cons; (case hc => rfl); (case hs => rfl); (case h => (apply pk_cons; (case hc => rfl); (case hs => rfl); (case h => (apply pk_cons; (case hc => rfl); (case hs => rfl); (case h => (with_reducible exact pk_nil)); (case he => ((repeat (first | with_reducible exact ap_nil | apply ap_cons)); done)))); (case he => ((repeat (first | with_reducible exact ap_nil | apply ap_cons)); done)))); (case he => ((repeat (first | with_reducible exact ap_nil | apply ap_cons)); done)))); (case hb => rfl); (case hd => rfl); intro b7) | apply v_seq | apply v_region | apply v_nil | (apply v_pure; (case hop => (apply p_assign <;> rfl)); (case hd => rfl)) | fail)
  refine v_frz [(b7, .cells [Value.int .i64 1, .int .i64 2, .int .i64 3].toArray 3 (0, 0))] (by repeat (exact PickA.last)) ?_
  intro G1 hle1 hG1
  have hm : Sl G1 1 (IntR .i64) (.slice (some ⟨b7, 0, none⟩) 3 3) [1, 2, 3] := Sl.ofInts (l := [1, 2, 3]) rfl (hG1 b7 _ (by (repeat (exact mhd _)))) (by decide) (by decide)
  refine v_call (μ1 := []) rfl (winFirst_s hm (by decide)) (List.Perm.refl _) rfl ?_
  rw [if_pos exC_ok, show firstI [1, 2, 3] = exIm from if_pos exC_ok]
  rintro _ G2 _ hle2 ⟨rfl, v2, rfl, hv2⟩
  obtain ⟨C2, cc2, A2, c2, A2', c2', rfl, hC2, hp2, hss2⟩ := id hv2
  repeat' (first | (apply v_alloc (d := 1); (case hz => rfl); (case hd => rfl); intro b1) | (apply v_read; (case hop => (apply r_loadNo; (case hx => rfl); (case h => repeat (exact mhd _)); (case hd => rfl); (case hn => rfl))); (case hd => rfl)) | apply v_seq | apply v_region | apply v_nil | (apply v_pure; (case hop => first | (apply p_move <;> rfl) | (apply p_assign <;> rfl) | (apply p_extract0 <;> rfl) | (apply p_extract1 <;> rfl) | (apply p_build; (case hz => rfl); (case hv => (simp only [List.map_cons, List.map_nil]; repeat (first | with_reducible exact evs_nil | (apply evs_cons; (case h1 => rfl))))); (case hb => (apply bldL; repeat (first | exact bld_nil | (apply bld_cons; (case hpf => rfl); (case hc => rfl); (case hs => rfl); (case hl => rfl); (case ho => ((repeat (first | with_reducible exact ov_nil | apply ov_cons)); done))))))) | fail); (case hd => rfl)) | (apply v_store; (case hp => rfl); (case hx => rfl); (case hc => rfl); (case hsz => rfl); (case h1 => rfl); (case hb => (repeat (exact mhd _))); (case hfit => exact nle rfl); (case hov => ((repeat (first | with_reducible exact ov_nil | apply ov_cons)); done)); (case hu => repeat (exact Upd.here _ _))) | fail)
  refine v_call (μ1 := []) rfl (winApply_s ((hT.up hle1).up hle2) hv2 hz (exC_ok.coZ (by decide)) addC ⟨by decide, by decide, by decide, Nat.zero_le _, Nat.zero_le _, Nat.zero_le _, by decide⟩ ⟨by decide, by decide⟩) (List.Perm.refl _) rfl ?_
  rw [ex_win]
  rintro _ G3 _ hle3 ⟨rfl, v3, rfl, hv3⟩
  obtain ⟨C3, cc3, A3, c3, A3', c3', rfl, hC3, hp3, hss3⟩ := id hv3
  have q4 := winMembers_s (((hT.up hle1).up hle2).up hle3) 4 hv3 hz (exN_ok.2.1.coZ (by decide)) (by decide)
  have q5 := fun G' (h : GH.le G3 G') => winMembers_s ((((hT.up hle1).up hle2).up hle3).up h) 5 (hv3.up h) hz (exN_ok.2.1.coZ (by decide)) (by decide)
  rw [ex_m4] at q4
  rw [ex_m5] at q5
  repeat' (first | (apply v_alloc (d := 3); (case hz => rfl); (case hd => rfl); intro b3) | (apply v_alloc (d := 4); (case hz => rfl); (case hd => rfl); intro b4) | (apply v_read; (case hop => (apply r_loadNo; (case hx => rfl); (case h => repeat (first | exact mhd _ | apply mtl)); (case hd => rfl); (case hn => rfl))); (case hd => rfl)) | apply v_seq | apply v_region | apply v_nil | (apply v_take; (case hg => rfl)) | (apply v_pure; (case hop => first | (apply p_move <;> rfl) | (apply p_eqs <;> rfl) | (apply p_assign <;> rfl) | (apply p_pickT <;> rfl) | (apply p_fieldAddrB <;> rfl) | (apply p_extract0 <;> rfl) | (apply p_extract1 <;> rfl) | (apply p_extract2 <;> rfl) | fail); (case hd => rfl)) | (apply v_read; (case hop => (apply r_load1; rfl; (apply Cell.own; (case h => (repeat (first | exact mhd _ | apply mtl))); rfl))); (case hd => rfl)) | (apply v_store; (case hp => rfl); (case hx => rfl); (case hc => rfl); (case hsz => rfl); (case h1 => rfl); (case hb => (repeat (first | exact mhd _ | apply mtl))); (case hfit => exact nle rfl); (case hov => ((repeat (first | with_reducible exact ov_nil | apply ov_cons)); done)); (case hu => repeat (first | exact Upd.here _ _ | apply Upd.there))) | fail)
  refine v_call (μ1 := []) rfl q4 (List.Perm.refl _) rfl ?_
  rintro _ G4 _ hle4 ⟨rfl, hr4⟩
  obtain ⟨A4, c4, rfl, -⟩ := id hr4.openInt
  repeat' (first | (apply v_read; (case hop => (apply r_loadNo; (case hx => rfl); (case h => repeat (first | exact mhd _ | apply mtl)); (case hd => rfl); (case hn => rfl))); (case hd => rfl)) | (apply v_take; (case hg => rfl)) | (apply v_pure; (case hop => first | (apply p_move <;> rfl) | (apply p_eqs <;> rfl) | (apply p_pickT <;> rfl) | (apply p_lenSlice <;> rfl) | fail); (case hd => rfl)) | fail)
  refine v_call (μ1 := []) rfl (q5 G4 hle4) (List.Perm.refl _) rfl ?_
  rintro _ G5 _ hle5 ⟨rfl, hr5⟩
  obtain ⟨A5, c5, rfl, -⟩ := id hr5.openInt
  repeat' (first | apply v_nil | (apply v_take; (case hg => rfl)) | (apply v_pure; (case hop => first | (apply p_eqs <;> rfl) | (apply p_assign <;> rfl) | (apply p_pickT <;> rfl) | (apply p_lenSlice <;> rfl) | fail); (case hd => rfl)) | fail)
  refine v_ret [] (outsA1 rfl rfl) (by repeat (exact List.nil_sublist _)) ?_
  exact ⟨rfl, rfl⟩
def CmR (c : Cm) (cs : List Value) : Prop := cs = c.cells ∧ c.ok
theorem el_cm {H : Type} {enc : TypeId × Value → H} {W : World} : Elem enc Tryz.prog W 28 CmR := by
  intro fuel cs x hf
  have h1 := el_flen (n := 7) Tryz.underlying28 (by kernel_rfl) hf
  obtain ⟨a0, h0, w0⟩ := el_fld (i := 0) (sz := 1) (by kernel_rfl) (el_int Tryz.underlying3) hf
  obtain ⟨a1, e1, w1⟩ := el_fld (i := 1) (sz := 1) (by kernel_rfl) (el_int Tryz.underlying3) hf
  obtain ⟨a2, e2, w2⟩ := el_fld (i := 2) (sz := 1) (by kernel_rfl) (el_int Tryz.underlying3) hf
  obtain ⟨a3, e3, w3⟩ := el_fld (i := 3) (sz := 1) (by kernel_rfl) (el_string Tryz.underlying9) hf
  obtain ⟨a4, e4, w4⟩ := el_fld (i := 4) (sz := 1) (by kernel_rfl) (el_string Tryz.underlying9) hf
  obtain ⟨a5, e5, w5⟩ := el_fld (i := 5) (sz := 1) (by kernel_rfl) (el_string Tryz.underlying9) hf
  obtain ⟨a6, e6, w6⟩ := el_fld (i := 6) (sz := 1) (by kernel_rfl) (el_int Tryz.underlying3) hf
  match cs, h1 with
  | [c0, c1, c2, c3, c4, c5, c6], _ =>
    simp only [List.drop_succ_cons, List.drop_zero, List.take_succ_cons, List.take_zero, List.cons.injEq, and_true] at h0 e1 e2 e3 e4 e5 e6
    exact ⟨⟨a0, a1, a2, a3, a4, a5, a6⟩, by rw [h0, e1, e2, e3, e4, e5, e6]; rfl, w0, w1, w2, w3, w4, w5, w6⟩
set_option maxRecDepth 100000 in
theorem arg_t22 {H : Type} {enc : TypeId × Value → H} {W : World} {base : Nat} {v : Value} {d : DataW H} {p : List MemPlace} (hv : Value.okWide Tryz.prog W .any base 22 v) (h : DataW.Trod enc Tryz.prog W 0 (fun _ => true) true 22 v d p) : ∃ l : List Cm, Sl (ghost W) 7 CmR v l :=
  arg_slice Tryz.underlying22 (by kernel_rfl) el_cm hv h
theorem cms_of {G : GH} {v : Value} {l : List Cm} (h : Sl G 7 CmR v l) : Cms G v l ∧ ∀ c ∈ l, c.ok := by
  obtain ⟨A, c, rfl, h1, h2, h3, h4⟩ := h.open
  refine ⟨Sl.le h (GH.le_refl _) (fun _ _ hx => hx.1), fun x hx => ?_⟩
  obtain ⟨i, hi, rfl⟩ := List.getElem_of_mem hx
  obtain ⟨cs, _, h5, h6⟩ := h4 i _ (List.getElem?_eq_getElem hi)
  exact h5.2
theorem firstEq : (Rows.laid_unicode_utf8_first : DataW Unit) = Lib.firstData := by kernel_rfl
theorem acceptEq : (Rows.laid_unicode_utf8_acceptRanges : DataW Unit) = Lib.acceptData := by kernel_rfl
abbrev tabsLaid : List (String × DataW Unit) := [("unicode/utf8.acceptRanges", Rows.laid_unicode_utf8_acceptRanges), ("unicode/utf8.first", Rows.laid_unicode_utf8_first)]
theorem tabs_plain : (tabsLaid.all fun x => x.2.handleName?.isNone) = true := by kernel_rfl
theorem tabs_of_laid {W : World} (hL : laidMetH Tryz.prog tabsLaid W) : TabsG (ghost W) := by
  rw [MakeChecks.laidMetH_plain _ _ _ tabs_plain] at hL
  have r1 := Lib.laidMet.reads hL (.tail _ (.head _))
  have r2 := Lib.laidMet.reads hL (.head _)
  rw [firstEq] at r1
  rw [acceptEq] at r2
  have hU := utf8Tabs_of_readsT (ρ := laysDecode_ren) { laysDecode with } ⟨by kernel_rfl, by kernel_rfl, by kernel_rfl, by kernel_rfl, by kernel_rfl, by kernel_rfl, by kernel_rfl⟩ r1 r2
  clear hL r1 r2
  intro w hw
  have lift : ∀ (a : Addr) v, W.cell? a = some v → w.cell? a = some v := by
    intro a v h
    unfold World.cell? at h ⊢
    cases hb : W.heap[a.block]? with
    | none => rw [hb] at h; simp at h
    | some o => rw [hw _ _ hb]; rw [hb] at h; exact h
  exact ⟨fun c hc => lift _ _ (hU.1 c hc), fun i hi => ⟨lift _ _ (hU.2 i hi).1, lift _ _ (hU.2 i hi).2⟩⟩
set_option maxRecDepth 100000 in
theorem arg_t49 {H : Type} {enc : TypeId × Value → H} {W : World} {base : Nat} {v : Value} {d : DataW H} {p : List MemPlace} (hv : Value.okWide Tryz.prog W .any base 49 v) (h : DataW.Trod enc Tryz.prog W 0 (fun _ => true) true 49 v d p) : ∃ l : List Int, Sl (ghost W) 1 (IntR .i64) v l :=
  arg_slice Tryz.underlying49 (by kernel_rfl) (el_int Tryz.underlying3) hv h
set_option maxHeartbeats 1000000 in
theorem windowOnce_law {W : World} {v0 v1 : Value} (hT : TabsG (ghost W)) (g0 : ∃ l : List Int, Sl (ghost W) 1 (IntR .i64) v0 l) (g1 : ∃ l : List Cm, Sl (ghost W) 7 CmR v1 l) : LawCon Tryz.prog 5 #[v0, v1] W := by
  obtain ⟨ml, hs⟩ := g0
  obtain ⟨l, hl0⟩ := g1
  obtain ⟨hl, hok⟩ := cms_of hl0
  unfold LawCon
  generalize ghost W = G at *
  have qa := fun G' (h : GH.le G G') => awake30_s (hT.up h)
  have q2 := lg28_s hl
  obtain ⟨LA, lc, rfl, hlc, hcm, hsome, hcp⟩ := rowOpen hl
  simp only [maxLen] at hcm
  obtain ⟨SA, sc, rfl, hsc, hsm, -⟩ := id hs.openInt
  simp only [maxLen] at hsm
  (refine v_enter Tryz.func5 rfl Tryz.ntmps5 rfl ?_; intro B _)
  repeat' (first | apply v_seq | apply v_region | apply v_nil | (apply v_take; (case hg => rfl)) | (apply v_pass; (case hg => rfl); (case hn => rfl); (case hd => rfl)) | (apply v_pure; (case hop => first | (apply p_move <;> rfl) | (apply p_gt <;> rfl) | (apply p_assign <;> rfl) | (apply p_pickT <;> rfl) | (apply p_lenSlice <;> rfl) | fail); (case hd => rfl)) | (apply v_condT; (case hc => rfl)) | (apply v_guardB; (case h1 => rfl); (case h2 => rfl); all_goals (intro h; (try simp only [reduceCtorEq, zzz] at h))) | fail)
  · refine v_call (μ1 := []) rfl (qa _ (GH.le_refl _)) (List.Perm.refl _) rfl ?_
    rintro _ G9 _ - ⟨rfl, rfl⟩
    repeat' (first | apply v_nil | (apply v_pure; (case hop => (apply p_assign <;> rfl)); (case hd => rfl)) | fail)
    refine v_ret [] (outsA1 rfl rfl) (by repeat (exact List.Sublist.refl _)) ?_
    rfl
  refine v_call (μ1 := []) rfl q2 (List.Perm.refl _) rfl ?_
  rintro _ G1 _ - ⟨hG1, rfl, b1, rfl, h2⟩
  subst hG1
  cases b1 with
  | true =>
    repeat' (first | apply v_seq | apply v_region | apply v_nil | (apply v_pure; (case hop => (apply p_pickF <;> rfl)); (case hd => rfl)) | (apply v_condT; (case hc => rfl)) | fail)
    refine v_call (μ1 := []) rfl (qa _ (GH.le_refl _)) (List.Perm.refl _) rfl ?_
    rintro _ G9 _ - ⟨rfl, rfl⟩
    repeat' (first | apply v_nil | (apply v_pure; (case hop => (apply p_assign <;> rfl)); (case hd => rfl)) | fail)
    refine v_ret [] (outsA1 rfl rfl) (by repeat (exact List.Sublist.refl _)) ?_
    rfl
  | false =>
    have hcs := h2 rfl
    have hlw : CmsW l := ⟨by have := hcs.1; omega, fun c hc => ⟨hok c hc, (hcs.2 c hc).1, (hcs.2 c hc).2.1⟩⟩
    repeat' (first | apply v_seq | apply v_region | apply v_nil | apply v_skip | (apply v_pure; (case hop => first | (apply p_move <;> rfl) | (apply p_pickF <;> rfl) | fail); (case hd => rfl)) | (apply v_condF; (case hc => rfl)) | fail)
    refine v_call (μ1 := []) rfl (winFirst_s hs (by omega)) (List.Perm.refl _) rfl ?_
    rintro _ G2 _ hle2 ⟨rfl, v2, rfl, hv2⟩
    obtain ⟨C2, cc2, A2, c2, A2', c2', rfl, hC2, hp2, hss2⟩ := id hv2
    repeat' (first | (apply v_alloc (d := 5); (case hz => rfl); (case hd => rfl); intro b5) | (apply v_buildSlice; (case hz => rfl); (case hi => rfl); (case hv => (simp only [List.map_cons, List.map_nil]; repeat (first | with_reducible exact evs_nil | (apply evs_cons; (case h1 => rfl))))); (case hp => (apply pk_cons; (case hc => rfl); (case hs => rfl); (case h => (with_reducible exact pk_nil)); (case he => ((repeat (first | with_reducible exact ap_nil | apply ap_cons)); done)))); (case hb => rfl); (case hd => rfl); intro b9) | apply v_seq | apply v_region | apply v_nil | (apply v_pure; (case hop => first | (apply p_move <;> rfl) | (apply p_assign <;> rfl) | (apply p_extract0 <;> rfl) | (apply p_extract1 <;> rfl) | (apply p_build; (case hz => rfl); (case hv => (simp only [List.map_cons, List.map_nil]; repeat (first | with_reducible exact evs_nil | (apply evs_cons; (case h1 => rfl))))); (case hb => (apply bldL; repeat (first | exact bld_nil | (apply bld_cons; (case hpf => rfl); (case hc => rfl); (case hs => rfl); (case hl => rfl); (case ho => ((repeat (first | with_reducible exact ov_nil | apply ov_cons)); done))))))) | fail); (case hd => rfl)) | (apply v_store; (case hp => rfl); (case hx => rfl); (case hc => rfl); (case hsz => rfl); (case h1 => rfl); (case hb => (repeat (exact mhd _))); (case hfit => exact nle rfl); (case hov => ((repeat (first | with_reducible exact ov_nil | apply ov_cons)); done)); (case hu => repeat (exact Upd.here _ _))) | fail)
    refine v_frz [(b9, .cells [Value.int .i64 1, .slice SA ml.length sc].toArray 61 (0, 0))] (PickA.here _) ?_
    intro G3 hle3 hG3
    have hC := Cos.made1 (x := 1) (WalkArith.wf_i64 (by decide)) (hs.mono (GH.le_trans hle2 hle3)) (hG3 _ _ (by (repeat (exact mhd _))))
    have qk := refConfCheck_s hC
    have hv3 := hv2.up hle3
    by_cases hP : ConfOK [(1, ml)]
    · rw [decide_eq_true hP] at qk
      have hm0 : ImP ⟨0, 0, [(1, ml)], emp⟩ := ⟨⟨by simp, by simp, by simp, by simp⟩, hP, emp_ok, by simp⟩
      have hfi : firstI ml = ⟨0, 0, [(1, ml)], emp⟩ := if_pos hP
      rw [if_pos hP]
      have qw := winCheck_s ((hT.up hle2).up hle3) hv3 (by rw [hfi]; exact emp_ok.small)
      rw [if_pos (by rw [hfi]; exact hm0)] at qw
      rw [← hfi] at hm0
      repeat' (first | (apply v_read; (case hop => (apply r_loadNo; (case hx => rfl); (case h => repeat (exact mhd _)); (case hd => rfl); (case hn => rfl))); (case hd => rfl)) | apply v_seq | apply v_region | apply v_nil | apply v_skip | apply v_block | (apply v_take; (case hg => rfl)) | (apply v_pure; (case hop => first | (apply p_move <;> rfl) | (apply p_nes <;> rfl) | (apply p_assign <;> rfl) | (apply p_pickF <;> rfl) | (apply p_not <;> rfl) | fail); (case hd => rfl)) | (apply v_condF; (case hc => rfl)) | (apply v_callJ (hs := qk); (case ha => rfl); (case hd => rfl)) | (apply v_callJ (hs := qw); (case ha => rfl); (case hd => rfl)) | fail)
      refine v_perm (ν := [imB 47 b5 (firstI ml) C2 cc2 A2 c2 A2' c2']) (List.Perm.refl _) ?_
      refine v_loop [9, 5, 1, 7, 8, 0] (fun us G' μ' => GH.le G3 G' ∧ ∃ (k n : Nat) (m1 : Im) (C1 : Option Addr) (cc1 : Nat) (A1 : Option Addr) (c1 : Nat) (A1' : Option Addr) (c1' : Nat), k ≤ l.length ∧ n ≤ k ∧ us = [Value.int .i64 (k : Nat), .pointer (some ⟨b5, 0, none⟩), .slice LA l.length lc, .int .i64 (n : Nat), .int .i64 m1.active, .slice SA ml.length sc] ∧ μ' = [imB 47 b5 m1 C1 cc1 A1 c1 A1' c1'] ∧ ImV G' m1 (.agg [.int .i64 m1.index, .int .i64 m1.active, .slice C1 m1.confs.length cc1, .int .i64 m1.st.schema, .slice A1 m1.st.pairs.length c1, .slice A1' m1.st.sess.length c1'].toArray) ∧ ImP m1 ∧ m1.index = (n : Int) ∧ m1.confs.length ≤ k + 1 ∧ runW (firstI ml) l = runW m1 (l.drop k)) (fun us => l.length - (headI us).toNat) rfl ⟨GH.le_refl _, 0, 0, firstI ml, C2, cc2, A2, c2, A2', c2', by omega, by omega, by rw [hfi]; rfl, rfl, hv3, hm0, by rw [hfi]; rfl, by rw [hfi]; simp, rfl⟩ ?_
      rintro us G' _ ⟨hle, k, n, m1, C1, cc1, A1, c1, A1', c1', hk, hnk, rfl, rfl, hm1, hok1, hix, hcl, hrun⟩
      have hln := hcs.1
      by_cases hlt : k < l.length
      · have e1 : ((k : Nat) : Int).toNat = k := by omega
        have hA := hsome (by omega)
        have hle' := GH.le_trans (GH.le_trans hle2 hle3) hle
        have hck := (rowOpen' (hl.mono hle')).2.2.2.2.2.2 k hlt
        have hck2 := fun G2 (h2 : GH.le G' G2) => (rowOpen' (hl.mono (GH.le_trans hle' h2))).2.2.2.2.2.2 k hlt
        obtain ⟨hxo, hxw⟩ := hlw.2 _ (List.getElem_mem hlt)
        have hcc := refCmdCheck_s (G := G') (l[k]) hxo
        have hco := hok1.2.1.coZ (by omega)
        have hap := fun G2 (h2 : GH.le G' G2) => winApply_s (hT.up (GH.le_trans hle' h2)) (hm1.up h2) hok1.2.2.1.small hco (l[k]) hxo hxw
        have hwi : cmdI l[k] = 0 → winS m1 l[k] = (nextI m1 l[k], (applyS m1.st l[k]).2.1, 0) := fun h => by
          unfold winS
          rw [if_neg (fun h => h hok1), if_neg (by omega), if_neg (by simp [h])]
        have hnx : runW (firstI ml) l = if cmdI l[k] ≠ 0 then runW m1 (l.drop (k + 1)) else runW (nextI m1 l[k]) (l.drop (k + 1)) := by
          rw [hrun, List.drop_eq_getElem_cons hlt]; rfl
        have hkp : cmdI l[k] = 0 → ImP (nextI m1 l[k]) ∧ (nextI m1 l[k]).index = (n : Int) + 1 ∧ (nextI m1 l[k]).confs.length ≤ k + 1 + 1 ∧ (nextI m1 l[k]).active = if l[k].kind = 6 ∧ m1.active = 0 then (n : Int) + 1 else m1.active := fun h => ⟨nextI_ok hok1 (by omega) h, by show m1.index + 1 = _; omega, by have := nextI_len (c := l[k]) hok1 (by omega); omega, by show activeI m1 l[k] = _; unfold activeI; rw [hix]⟩
        clear hrun hxo hxw hco
        generalize applyS m1.st l[k] = ap at *
        obtain ⟨s5, ⟨ac, aq, ae, af, av5, ar⟩, e5⟩ := ap
        generalize winS m1 l[k] = ws at *
        generalize nextI m1 l[k] = m5 at *
        generalize l[k] = x at *
        generalize cmdI x = ci at *
        obtain ⟨kind, cl, seq, key, val, old, node⟩ := x
        simp only at *
        repeat' (first | apply v_seq | apply v_region | apply v_nil | apply v_skip | apply v_block | (apply v_pure; (case hop => first | (apply p_move <;> rfl) | (apply p_lt <;> rfl) | (apply p_lenSlice <;> rfl) | (apply p_indexAddrS; (case hx => rfl); (case hi => rfl); (case h0 => omega); (case h => omega); (case hA => assumption)) | fail); (case hd => rfl)) | (apply v_cond; (case hc => rfl); all_goals (intro h; (try simp only [reduceCtorEq, zzz] at h); first | (exfalso; omega) | skip)) | (apply v_read; (case hop => (apply r_loadN; rfl; exact CellsAt.frozen hck; rfl)); (case hd => rfl)) | fail)
        refine v_call (μ1 := []) rfl hcc (List.Perm.refl _) rfl ?_
        rintro _ G5 _ hle5 ⟨rfl, rfl⟩
        have hck5 := hck2 G5 hle5
        have hap5 := hap G5 hle5
        repeat' (first | apply v_seq | apply v_region | apply v_nil | apply v_skip | (apply v_exit; (case hp => rfl)) | (apply v_pure; (case hop => first | (apply p_move <;> rfl) | (apply p_ne <;> rfl) | (apply p_assign <;> rfl) | (apply p_add; (case hx => rfl); (case hy => rfl); (case h => omega)) | fail); (case hd => rfl)) | (apply v_cond; (case hc => rfl); all_goals (intro h; (try simp only [reduceCtorEq, zzz] at h))) | fail)
        · rw [if_pos (by assumption)] at hnx
          exact v_again rfl ⟨GH.le_trans hle hle5, k + 1, n, m1, C1, cc1, A1, c1, A1', c1', by omega, by omega, rfl, rfl, hm1.up hle5, hok1, hix, by omega, hnx⟩ (by simp [headI]; omega)
        · have hci : ci = 0 := by assumption
          rw [if_neg (by simp [hci])] at hnx
          rw [hwi hci] at hap5
          simp only at hap5
          obtain ⟨hk5, hi5, hl5, ha5⟩ := hkp hci
          clear hkp hwi hcc
          refine d_start [imB 47 b5 m1 C1 cc1 A1 c1 A1' c1'] (by kernel_rfl) (by kernel_rfl) (by kernel_rfl) (by intro e he; exact he) ?_
          all_goals (apply dtk 0; (case hi => rfl); (case hop => (apply r_loadNo; (case hx => rfl); (case h => (repeat (exact mhd _))); (case hd => (repeat (first | with_reducible exact dt_nil | apply dt_here))); (case hn => rfl))); (case hq => kernel_rfl))
          all_goals (apply dtk 1; (case hi => rfl); (case hop => (apply prd; apply p_move <;> rfl)); (case hq => kernel_rfl))
          all_goals (apply dtk 2; (case hi => rfl); (case hop => (apply prd; apply p_move <;> rfl)); (case hq => kernel_rfl))
          all_goals (apply dtk 3; (case hi => rfl); (case hop => (apply prd; apply p_indexAddrS; (case hx => rfl); (case hi => rfl); (case h0 => omega); (case h => omega); (case hA => assumption))); (case hq => kernel_rfl))
          all_goals (apply dtk 4; (case hi => rfl); (case hop => ((apply r_loadN; rfl; exact CellsAt.frozen hck5; rfl))); (case hq => kernel_rfl))
          focus
            refine d_fork3 5 10 11 (by kernel_rfl) ?_ ?_ ?_
            rotate_right
            focus
              (apply x_exec (d := 11) 11; (case hi => rfl);  (case hop => exact m_alloc rfl); (case hd => rfl); rintro _ G0 _ ⟨b11, rfl, hG0, rfl⟩; subst G0; refine ⟨(by intro e he; simp only [List.mem_cons, List.not_mem_nil, or_false] at he; rcases he with rfl; simp), ?_⟩)
              focus
                refine d_fork 5 10 (by kernel_rfl) ?_ ?_
                rotate_right
                focus
                  (apply x_exec (d := 10) 10; (case hi => rfl);  (case hop => exact m_alloc rfl); (case hd => rfl); rintro _ G0 _ ⟨b10, rfl, hG0, rfl⟩; subst G0; refine ⟨(by intro e he; simp only [List.mem_cons, List.not_mem_nil, or_false] at he; rcases he with rfl; simp), ?_⟩)
                  all_goals ((apply d_call 5 (hs := hap5) (μ1 := []); (case hi => rfl); (case hr => kernel_rfl);  (case ha => rfl); (case hp => exact List.Perm.refl _); (case hd => rfl); (case hν' => intro e he; simp only [List.mem_cons, List.not_mem_nil, or_false] at he; rcases he with rfl; simp); rintro _ G6 _ hle6 ⟨rfl, v6, rfl, hm6⟩; obtain ⟨C6, cc6, A6, c6, A6', c6', rfl, hC6, hp6, hss6⟩ := id hm6))
                  all_goals (apply dtk 6; (case hi => rfl); (case hop => (apply prd; apply p_move <;> rfl)); (case hq => kernel_rfl))
                  all_goals (apply dtk 7; (case hi => rfl); (case hop => (apply prd; apply p_extract0 <;> rfl)); (case hq => kernel_rfl))
                  all_goals (apply dtk 8; (case hi => rfl); (case hop => (apply prd; apply p_extract1 <;> rfl)); (case hq => kernel_rfl))
                  all_goals (apply dtk 9; (case hi => rfl); (case hop => (apply prd; apply p_extract2 <;> rfl)); (case hq => kernel_rfl))
                  all_goals (apply d_store 12; (case hi => rfl); (case hr => kernel_rfl); (case hL => infer_instance); (case hp => rfl); (case hx => rfl); (case hc => rfl); (case hsz => rfl); (case h1 => rfl); (case hb => (repeat (exact mhd _))); (case hfit => exact nle rfl); (case hov => ((repeat (first | with_reducible exact ov_nil | apply ov_cons)); done)); (case hu => repeat (exact Upd.here _ _)); (case hν' => intro e he; (simp at he; simp [he]; done)))
                  all_goals (apply d_store 13; (case hi => rfl); (case hr => kernel_rfl); (case hL => infer_instance); (case hp => rfl); (case hx => rfl); (case hc => rfl); (case hsz => rfl); (case h1 => rfl); (case hb => (repeat (first | exact mhd _ | apply mtl))); (case hfit => exact nle rfl); (case hov => ((repeat (first | with_reducible exact ov_nil | apply ov_cons)); done)); (case hu => repeat (first | exact Upd.here _ _ | apply Upd.there)); (case hν' => intro e he; (simp at he; simp [he]; done)))
                  all_goals (apply dtk 14; (case hi => rfl); (case hop => (apply prd; apply p_assign <;> rfl)); (case hq => kernel_rfl))
                  all_goals (apply d_done; (case hr => kernel_rfl))
                rotate_right
                focus
                  (apply x_call 5 (hs := hap5) (μ1 := []); (case hi => rfl);  (case ha => rfl); (case hp => exact List.Perm.refl _); (case hd => rfl); (case hν' => intro e he; simp only [List.mem_cons, List.not_mem_nil, or_false] at he; rcases he with rfl; simp); rintro _ G6 _ hle6 ⟨rfl, v6, rfl, hm6⟩; obtain ⟨C6, cc6, A6, c6, A6', c6', rfl, hC6, hp6, hss6⟩ := id hm6)
                  all_goals (apply dtk 6; (case hi => rfl); (case hop => (apply prd; apply p_move <;> rfl)); (case hq => kernel_rfl))
                  all_goals (apply dtk 7; (case hi => rfl); (case hop => (apply prd; apply p_extract0 <;> rfl)); (case hq => kernel_rfl))
                  all_goals (apply dtk 8; (case hi => rfl); (case hop => (apply prd; apply p_extract1 <;> rfl)); (case hq => kernel_rfl))
                  all_goals (apply dtk 9; (case hi => rfl); (case hop => (apply prd; apply p_extract2 <;> rfl)); (case hq => kernel_rfl))
                  all_goals ((apply d_exec (d := 10) 10; (case hi => rfl); (case hr => kernel_rfl);  (case hop => exact m_alloc rfl); (case hd => rfl); rintro _ G0 _ ⟨b10, rfl, hG0, rfl⟩; subst G0; refine ⟨(by intro e he; simp only [List.mem_cons, List.not_mem_nil, or_false] at he; rcases he with rfl; simp), ?_⟩))
                  all_goals (apply d_store 12; (case hi => rfl); (case hr => kernel_rfl); (case hL => infer_instance); (case hp => rfl); (case hx => rfl); (case hc => rfl); (case hsz => rfl); (case h1 => rfl); (case hb => (repeat (exact mhd _))); (case hfit => exact nle rfl); (case hov => ((repeat (first | with_reducible exact ov_nil | apply ov_cons)); done)); (case hu => repeat (exact Upd.here _ _)); (case hν' => intro e he; (simp at he; simp [he]; done)))
                  all_goals (apply d_store 13; (case hi => rfl); (case hr => kernel_rfl); (case hL => infer_instance); (case hp => rfl); (case hx => rfl); (case hc => rfl); (case hsz => rfl); (case h1 => rfl); (case hb => (repeat (first | exact mhd _ | apply mtl))); (case hfit => exact nle rfl); (case hov => ((repeat (first | with_reducible exact ov_nil | apply ov_cons)); done)); (case hu => repeat (first | exact Upd.here _ _ | apply Upd.there)); (case hν' => intro e he; (simp at he; simp [he]; done)))
                  all_goals (apply dtk 14; (case hi => rfl); (case hop => (apply prd; apply p_assign <;> rfl)); (case hq => kernel_rfl))
                  all_goals (apply d_done; (case hr => kernel_rfl))
            rotate_right
            focus
              (apply x_exec (d := 10) 10; (case hi => rfl);  (case hop => exact m_alloc rfl); (case hd => rfl); rintro _ G0 _ ⟨b10, rfl, hG0, rfl⟩; subst G0; refine ⟨(by intro e he; simp only [List.mem_cons, List.not_mem_nil, or_false] at he; rcases he with rfl; simp), ?_⟩)
              focus
                refine d_fork 5 11 (by kernel_rfl) ?_ ?_
                rotate_right
                focus
                  (apply x_exec (d := 11) 11; (case hi => rfl);  (case hop => exact m_alloc rfl); (case hd => rfl); rintro _ G0 _ ⟨b11, rfl, hG0, rfl⟩; subst G0; refine ⟨(by intro e he; simp only [List.mem_cons, List.not_mem_nil, or_false] at he; rcases he with rfl; simp), ?_⟩)
                  all_goals ((apply d_call 5 (hs := hap5) (μ1 := []); (case hi => rfl); (case hr => kernel_rfl);  (case ha => rfl); (case hp => exact List.Perm.refl _); (case hd => rfl); (case hν' => intro e he; simp only [List.mem_cons, List.not_mem_nil, or_false] at he; rcases he with rfl; simp); rintro _ G6 _ hle6 ⟨rfl, v6, rfl, hm6⟩; obtain ⟨C6, cc6, A6, c6, A6', c6', rfl, hC6, hp6, hss6⟩ := id hm6))
                  all_goals (apply dtk 6; (case hi => rfl); (case hop => (apply prd; apply p_move <;> rfl)); (case hq => kernel_rfl))
                  all_goals (apply dtk 7; (case hi => rfl); (case hop => (apply prd; apply p_extract0 <;> rfl)); (case hq => kernel_rfl))
                  all_goals (apply dtk 8; (case hi => rfl); (case hop => (apply prd; apply p_extract1 <;> rfl)); (case hq => kernel_rfl))
                  all_goals (apply dtk 9; (case hi => rfl); (case hop => (apply prd; apply p_extract2 <;> rfl)); (case hq => kernel_rfl))
                  all_goals (apply d_store 12; (case hi => rfl); (case hr => kernel_rfl); (case hL => infer_instance); (case hp => rfl); (case hx => rfl); (case hc => rfl); (case hsz => rfl); (case h1 => rfl); (case hb => (repeat (first | exact mhd _ | apply mtl))); (case hfit => exact nle rfl); (case hov => ((repeat (first | with_reducible exact ov_nil | apply ov_cons)); done)); (case hu => repeat (first | exact Upd.here _ _ | apply Upd.there)); (case hν' => intro e he; (simp at he; simp [he]; done)))
                  all_goals (apply d_store 13; (case hi => rfl); (case hr => kernel_rfl); (case hL => infer_instance); (case hp => rfl); (case hx => rfl); (case hc => rfl); (case hsz => rfl); (case h1 => rfl); (case hb => (repeat (exact mhd _))); (case hfit => exact nle rfl); (case hov => ((repeat (first | with_reducible exact ov_nil | apply ov_cons)); done)); (case hu => repeat (exact Upd.here _ _)); (case hν' => intro e he; (simp at he; simp [he]; done)))
                  all_goals (apply dtk 14; (case hi => rfl); (case hop => (apply prd; apply p_assign <;> rfl)); (case hq => kernel_rfl))
                  all_goals (apply d_done; (case hr => kernel_rfl))
                rotate_right
                focus
                  (apply x_call 5 (hs := hap5) (μ1 := []); (case hi => rfl);  (case ha => rfl); (case hp => exact List.Perm.refl _); (case hd => rfl); (case hν' => intro e he; simp only [List.mem_cons, List.not_mem_nil, or_false] at he; rcases he with rfl; simp); rintro _ G6 _ hle6 ⟨rfl, v6, rfl, hm6⟩; obtain ⟨C6, cc6, A6, c6, A6', c6', rfl, hC6, hp6, hss6⟩ := id hm6)
                  all_goals (apply dtk 6; (case hi => rfl); (case hop => (apply prd; apply p_move <;> rfl)); (case hq => kernel_rfl))
                  all_goals (apply dtk 7; (case hi => rfl); (case hop => (apply prd; apply p_extract0 <;> rfl)); (case hq => kernel_rfl))
                  all_goals (apply dtk 8; (case hi => rfl); (case hop => (apply prd; apply p_extract1 <;> rfl)); (case hq => kernel_rfl))
                  all_goals (apply dtk 9; (case hi => rfl); (case hop => (apply prd; apply p_extract2 <;> rfl)); (case hq => kernel_rfl))
                  all_goals ((apply d_exec (d := 11) 11; (case hi => rfl); (case hr => kernel_rfl);  (case hop => exact m_alloc rfl); (case hd => rfl); rintro _ G0 _ ⟨b11, rfl, hG0, rfl⟩; subst G0; refine ⟨(by intro e he; simp only [List.mem_cons, List.not_mem_nil, or_false] at he; rcases he with rfl; simp), ?_⟩))
                  all_goals (apply d_store 12; (case hi => rfl); (case hr => kernel_rfl); (case hL => infer_instance); (case hp => rfl); (case hx => rfl); (case hc => rfl); (case hsz => rfl); (case h1 => rfl); (case hb => (repeat (first | exact mhd _ | apply mtl))); (case hfit => exact nle rfl); (case hov => ((repeat (first | with_reducible exact ov_nil | apply ov_cons)); done)); (case hu => repeat (first | exact Upd.here _ _ | apply Upd.there)); (case hν' => intro e he; (simp at he; simp [he]; done)))
                  all_goals (apply d_store 13; (case hi => rfl); (case hr => kernel_rfl); (case hL => infer_instance); (case hp => rfl); (case hx => rfl); (case hc => rfl); (case hsz => rfl); (case h1 => rfl); (case hb => (repeat (exact mhd _))); (case hfit => exact nle rfl); (case hov => ((repeat (first | with_reducible exact ov_nil | apply ov_cons)); done)); (case hu => repeat (exact Upd.here _ _)); (case hν' => intro e he; (simp at he; simp [he]; done)))
                  all_goals (apply dtk 14; (case hi => rfl); (case hop => (apply prd; apply p_assign <;> rfl)); (case hq => kernel_rfl))
                  all_goals (apply d_done; (case hr => kernel_rfl))
            rotate_right
            focus
              (apply x_call 5 (hs := hap5) (μ1 := []); (case hi => rfl);  (case ha => rfl); (case hp => exact List.Perm.refl _); (case hd => rfl); (case hν' => intro e he; simp only [List.mem_cons, List.not_mem_nil, or_false] at he; rcases he with rfl; simp); rintro _ G6 _ hle6 ⟨rfl, v6, rfl, hm6⟩; obtain ⟨C6, cc6, A6, c6, A6', c6', rfl, hC6, hp6, hss6⟩ := id hm6)
              all_goals (apply dtk 6; (case hi => rfl); (case hop => (apply prd; apply p_move <;> rfl)); (case hq => kernel_rfl))
              all_goals (apply dtk 7; (case hi => rfl); (case hop => (apply prd; apply p_extract0 <;> rfl)); (case hq => kernel_rfl))
              all_goals (apply dtk 8; (case hi => rfl); (case hop => (apply prd; apply p_extract1 <;> rfl)); (case hq => kernel_rfl))
              all_goals (apply dtk 9; (case hi => rfl); (case hop => (apply prd; apply p_extract2 <;> rfl)); (case hq => kernel_rfl))
              focus
                refine d_fork 10 11 (by kernel_rfl) ?_ ?_
                rotate_right
                focus
                  (apply x_exec (d := 11) 11; (case hi => rfl);  (case hop => exact m_alloc rfl); (case hd => rfl); rintro _ G0 _ ⟨b11, rfl, hG0, rfl⟩; subst G0; refine ⟨(by intro e he; simp only [List.mem_cons, List.not_mem_nil, or_false] at he; rcases he with rfl; simp), ?_⟩)
                  all_goals ((apply d_exec (d := 10) 10; (case hi => rfl); (case hr => kernel_rfl);  (case hop => exact m_alloc rfl); (case hd => rfl); rintro _ G0 _ ⟨b10, rfl, hG0, rfl⟩; subst G0; refine ⟨(by intro e he; simp only [List.mem_cons, List.not_mem_nil, or_false] at he; rcases he with rfl; simp), ?_⟩))
                  all_goals (apply d_store 12; (case hi => rfl); (case hr => kernel_rfl); (case hL => infer_instance); (case hp => rfl); (case hx => rfl); (case hc => rfl); (case hsz => rfl); (case h1 => rfl); (case hb => (repeat (exact mhd _))); (case hfit => exact nle rfl); (case hov => ((repeat (first | with_reducible exact ov_nil | apply ov_cons)); done)); (case hu => repeat (exact Upd.here _ _)); (case hν' => intro e he; (simp at he; simp [he]; done)))
                  all_goals (apply d_store 13; (case hi => rfl); (case hr => kernel_rfl); (case hL => infer_instance); (case hp => rfl); (case hx => rfl); (case hc => rfl); (case hsz => rfl); (case h1 => rfl); (case hb => (repeat (first | exact mhd _ | apply mtl))); (case hfit => exact nle rfl); (case hov => ((repeat (first | with_reducible exact ov_nil | apply ov_cons)); done)); (case hu => repeat (first | exact Upd.here _ _ | apply Upd.there)); (case hν' => intro e he; (simp at he; simp [he]; done)))
                  all_goals (apply dtk 14; (case hi => rfl); (case hop => (apply prd; apply p_assign <;> rfl)); (case hq => kernel_rfl))
                  all_goals (apply d_done; (case hr => kernel_rfl))
                rotate_right
                focus
                  (apply x_exec (d := 10) 10; (case hi => rfl);  (case hop => exact m_alloc rfl); (case hd => rfl); rintro _ G0 _ ⟨b10, rfl, hG0, rfl⟩; subst G0; refine ⟨(by intro e he; simp only [List.mem_cons, List.not_mem_nil, or_false] at he; rcases he with rfl; simp), ?_⟩)
                  all_goals ((apply d_exec (d := 11) 11; (case hi => rfl); (case hr => kernel_rfl);  (case hop => exact m_alloc rfl); (case hd => rfl); rintro _ G0 _ ⟨b11, rfl, hG0, rfl⟩; subst G0; refine ⟨(by intro e he; simp only [List.mem_cons, List.not_mem_nil, or_false] at he; rcases he with rfl; simp), ?_⟩))
                  all_goals (apply d_store 12; (case hi => rfl); (case hr => kernel_rfl); (case hL => infer_instance); (case hp => rfl); (case hx => rfl); (case hc => rfl); (case hsz => rfl); (case h1 => rfl); (case hb => (repeat (first | exact mhd _ | apply mtl))); (case hfit => exact nle rfl); (case hov => ((repeat (first | with_reducible exact ov_nil | apply ov_cons)); done)); (case hu => repeat (first | exact Upd.here _ _ | apply Upd.there)); (case hν' => intro e he; (simp at he; simp [he]; done)))
                  all_goals (apply d_store 13; (case hi => rfl); (case hr => kernel_rfl); (case hL => infer_instance); (case hp => rfl); (case hx => rfl); (case hc => rfl); (case hsz => rfl); (case h1 => rfl); (case hb => (repeat (exact mhd _))); (case hfit => exact nle rfl); (case hov => ((repeat (first | with_reducible exact ov_nil | apply ov_cons)); done)); (case hu => repeat (exact Upd.here _ _)); (case hν' => intro e he; (simp at he; simp [he]; done)))
                  all_goals (apply dtk 14; (case hi => rfl); (case hop => (apply prd; apply p_assign <;> rfl)); (case hq => kernel_rfl))
                  all_goals (apply d_done; (case hr => kernel_rfl))
          all_goals refine v_perm (ν := (b11, .cells [.int .i64 ac, .int .i64 aq, .int .i64 ae, .bool af, .string av5, .int .i64 ar].toArray 40 (0, 0)) :: imB 47 b10 m5 C6 cc6 A6 c6 A6' c6' :: [imB 47 b5 m1 C1 cc1 A1 c1 A1' c1']) (by first | exact List.Perm.refl _ | exact List.Perm.swap _ _ _) ?_
          all_goals have hck6 := ((hck2 _ (GH.le_trans hle5 hle6)).cell (j := 0) rfl)
          all_goals (by_cases h60 : kind = 6 ∧ m1.active = 0)
          all_goals (first | rw [if_pos h60] at ha5 | rw [if_neg h60] at ha5)
          all_goals
            repeat' (first | (apply v_read; (case hop => (apply r_loadNo; (case hx => rfl); (case h => repeat (first | exact mhd _ | apply mtl)); (case hd => rfl); (case hn => rfl))); (case hd => rfl)) | apply v_seq | apply v_region | apply v_nil | apply v_skip | apply v_blk | (apply v_take; (case hg => rfl)) | (apply v_pass; (case hg => rfl); (case hn => rfl); (case hd => rfl)) | (apply v_pure; (case hop => first | (apply p_move <;> rfl) | (apply p_nes <;> rfl) | (apply p_eq <;> rfl) | (apply p_ne <;> rfl) | (apply p_assign <;> rfl) | (apply p_pickT <;> rfl) | (apply p_pickF <;> rfl) | (apply p_fieldAddrB <;> rfl) | (apply p_fieldAddr <;> rfl) | (apply p_add; (case hx => rfl); (case hy => rfl); (case h => omega)) | (apply p_indexAddrS; (case hx => rfl); (case hi => rfl); (case h0 => omega); (case h => omega); (case hA => assumption)) | fail); (case hd => rfl)) | (apply v_condF; (case hc => rfl)) | (apply v_cond; (case hc => rfl); all_goals (intro h; (try simp only [reduceCtorEq, zzz] at h); first | (exfalso; omega) | skip)) | (apply v_guardB; (case h1 => rfl); (case h2 => rfl); all_goals (intro h; (try simp only [reduceCtorEq, zzz] at h); first | (exfalso; omega) | skip)) | (apply v_read; (case hop => (apply r_load1; rfl; exact Cell.frozen hck6)); (case hd => rfl)) | (apply v_read; (case hop => (apply r_load1; rfl; (apply Cell.own; (case h => (repeat (first | exact mhd _ | apply mtl))); rfl))); (case hd => rfl)) | (apply v_store; (case hp => rfl); (case hx => rfl); (case hc => rfl); (case hsz => rfl); (case h1 => rfl); (case hb => (repeat (first | exact mhd _ | apply mtl))); (case hfit => exact nle rfl); (case hov => (rfl)); (case hu => repeat (first | exact Upd.here _ _ | apply Upd.there))) | fail)
          all_goals
            (refine v_drop (ν := [imB 47 b5 m5 C6 cc6 A6 c6 A6' c6']) (List.Sublist.cons _ (List.Sublist.cons _ (List.Sublist.refl _))) ?_
             exact v_again rfl ⟨GH.le_trans hle (GH.le_trans hle5 hle6), k + 1, n + 1, m5, C6, cc6, A6, c6, A6', c6', by omega, by omega, by rw [ha5]; rfl, rfl, hm6, hk5, by omega, by omega, hnx⟩ (by simp [headI]; omega))
      · obtain rfl : k = l.length := by omega
        rw [List.drop_length] at hrun
        repeat' (first | apply v_seq | apply v_region | apply v_nil | (apply v_exit; (case hp => rfl)) | (apply v_pure; (case hop => first | (apply p_move <;> rfl) | (apply p_lt <;> rfl) | (apply p_lenSlice <;> rfl) | fail); (case hd => rfl)) | (apply v_cond; (case hc => rfl); all_goals (intro h; (try simp only [reduceCtorEq, zzz] at h); first | (exfalso; omega) | skip)) | fail)
        refine v_call (μ1 := []) rfl (refWRun_s (hs.mono (GH.le_trans (GH.le_trans hle2 hle3) hle)) hP (hl.mono (GH.le_trans (GH.le_trans hle2 hle3) hle)) hlw) (List.Perm.refl _) rfl ?_
        rintro _ G5 μ5 hle5 ⟨v5, av5, rfl, hv5⟩
        rw [← hfi, hrun] at hv5
        refine v_drop (ν := [imB 47 b5 m1 C1 cc1 A1 c1 A1' c1']) (List.sublist_append_right _ _) ?_
        obtain ⟨C5, cc5, A5, c5, A5', c5', rfl, -, -, -⟩ := id hv5
        have hm5 := hm1.up hle5
        have hco := hok1.2.1.coZ (by omega)
        have qs1 := refWSame_s hm5 hv5
        have qcl := winClone_s hm5 hok1.2.2.1.small hco
        have qaw := fun G' (h : GH.le G5 G') => qa G' (GH.le_trans (GH.le_trans (GH.le_trans hle2 hle3) hle) (GH.le_trans hle5 h))
        repeat' (first | (apply v_alloc (d := 13); (case hz => rfl); (case hd => rfl); intro b13) | apply v_seq | apply v_nil | (apply v_pure; (case hop => first | (apply p_move <;> rfl) | (apply p_assign <;> rfl) | (apply p_extract0 <;> rfl) | (apply p_extract1 <;> rfl) | fail); (case hd => rfl)) | (apply v_store; (case hp => rfl); (case hx => rfl); (case hc => rfl); (case hsz => rfl); (case h1 => rfl); (case hb => (repeat (exact mhd _))); (case hfit => exact nle rfl); (case hov => ((repeat (first | with_reducible exact ov_nil | apply ov_cons)); done)); (case hu => repeat (exact Upd.here _ _))) | fail)
        refine d_start _ (by kernel_rfl) (by kernel_rfl) (by kernel_rfl) (fun _ he => he) ?_
        all_goals (apply dtk 0; (case hi => rfl); (case hop => first | (apply r_loadNo; (case hx => rfl); (case h => (repeat (first | exact mhd _ | apply mtl))); (case hd => (repeat (first | with_reducible exact dt_nil | apply dt_here))); (case hn => rfl)) | (apply r_load1; rfl; (apply Cell.own; (case h => (repeat (fail))); rfl)) | (apply r_loadN; rfl; (apply CellsAt.own; (case h => (repeat (fail)))); rfl)); (case hq => kernel_rfl))
        all_goals (apply dtk 1; (case hi => rfl); (case hop => first | (apply r_loadNo; (case hx => rfl); (case h => (repeat (exact mhd _))); (case hd => (repeat (first | with_reducible exact dt_nil | apply dt_here))); (case hn => rfl)) | (apply r_load1; rfl; (apply Cell.own; (case h => (repeat (fail))); rfl)) | (apply r_loadN; rfl; (apply CellsAt.own; (case h => (repeat (fail)))); rfl)); (case hq => kernel_rfl))
        all_goals ((apply d_call 2 (hs := qs1) (μ1 := []); (case hi => rfl); (case hr => kernel_rfl);  (case ha => rfl); (case hp => exact List.Perm.refl _); (case hd => rfl); (case hν' => intro e he; exact he); rintro _ G8 _ - ⟨hG8, rfl, b8, rfl, h8⟩; subst hG8; obtain rfl := h8 rfl))
        all_goals (apply dtk 3; (case hi => rfl); (case hop => (apply prd; apply p_move <;> rfl)); (case hq => kernel_rfl))
        all_goals (try (apply d_guardB 4; (case hi => rfl); (case hgd => rfl); (case h1 => rfl); (case h2 => rfl); all_goals (intro h; (try simp only [reduceCtorEq, zzz] at h))))
        all_goals (apply dtg 4; (case hi => rfl); (case hg => rfl); (case hop => first | (apply r_loadNo; (case hx => rfl); (case h => (repeat (first | exact mhd _ | apply mtl))); (case hd => (repeat (first | with_reducible exact dt_nil | apply dt_here))); (case hn => rfl)) | (apply r_load1; rfl; (apply Cell.own; (case h => (repeat (fail))); rfl)) | (apply r_loadN; rfl; (apply CellsAt.own; (case h => (repeat (fail)))); rfl)); (case hq => kernel_rfl))
        all_goals (try (apply d_guardB 6; (case hi => rfl); (case hgd => rfl); (case h1 => rfl); (case h2 => rfl); all_goals (intro h; (try simp only [reduceCtorEq, zzz] at h))))
        all_goals (apply dtg 6; (case hi => rfl); (case hg => rfl); (case hop => first | (apply r_loadNo; (case hx => rfl); (case h => (repeat (first | exact mhd _ | apply mtl))); (case hd => (repeat (first | with_reducible exact dt_nil | apply dt_here))); (case hn => rfl)) | (apply r_load1; rfl; (apply Cell.own; (case h => (repeat (fail))); rfl)) | (apply r_loadN; rfl; (apply CellsAt.own; (case h => (repeat (fail)))); rfl)); (case hq => kernel_rfl))
        all_goals (try (apply d_guardB 5; (case hi => rfl); (case hgd => rfl); (case h1 => rfl); (case h2 => rfl); all_goals (intro h; (try simp only [reduceCtorEq, zzz] at h))))
        all_goals ((apply d_callG 5 (hs := qcl) (μ1 := []); (case hi => rfl); (case hg => rfl); (case hr => kernel_rfl);  (case ha => rfl); (case hp => exact List.Perm.refl _); (case hd => rfl); (case hν' => intro e he; exact he); rintro _ G9 _ hle9 ⟨rfl, hm9⟩; obtain ⟨C9, cc9, A9, c9, A9', c9', rfl, -, -, -⟩ := id hm9))
        all_goals (try (apply d_guardB 7; (case hi => rfl); (case hgd => rfl); (case h1 => rfl); (case h2 => rfl); all_goals (intro h; (try simp only [reduceCtorEq, zzz] at h))))
        all_goals ((apply d_callG 7 (hs := refWSame_s hm9 (hm5.up hle9)) (μ1 := []); (case hi => rfl); (case hg => rfl); (case hr => kernel_rfl);  (case ha => rfl); (case hp => exact List.Perm.refl _); (case hd => rfl); (case hν' => intro e he; exact he); rintro _ G8 _ - ⟨hG8, rfl, b8, rfl, h8⟩; subst hG8; obtain rfl := h8 rfl))
        all_goals (apply dtk 8; (case hi => rfl); (case hop => (apply prd; apply p_pickT <;> rfl)); (case hq => kernel_rfl))
        all_goals (apply dtk 9; (case hi => rfl); (case hop => (apply prd; apply p_move <;> rfl)); (case hq => kernel_rfl))
        all_goals (try (apply d_guardB 10; (case hi => rfl); (case hgd => rfl); (case h1 => rfl); (case h2 => rfl); all_goals (intro h; (try simp only [reduceCtorEq, zzz] at h))))
        all_goals ((apply d_callG 10 (hs := qaw _ hle9) (μ1 := []); (case hi => rfl); (case hg => rfl); (case hr => kernel_rfl);  (case ha => rfl); (case hp => exact List.Perm.refl _); (case hd => rfl); (case hν' => intro e he; exact he); rintro _ G10 _ hle10 ⟨rfl, rfl⟩))
        all_goals (apply dtk 11; (case hi => rfl); (case hop => (apply prd; apply p_pickT <;> rfl)); (case hq => kernel_rfl))
        all_goals (apply dtk 12; (case hi => rfl); (case hop => (apply prd; apply p_assign <;> rfl)); (case hq => kernel_rfl))
        all_goals (apply d_done; (case hr => kernel_rfl))
        repeat' (fail)
        refine v_ret [] (outsA1 rfl rfl) (by repeat (exact List.nil_sublist _)) ?_
        rfl
    · rw [decide_eq_false hP] at qk
      have hfi : firstI ml = zeroIm := if_neg hP
      rw [if_neg hP]
      rw [hfi] at hv3
      rw [hfi]
      repeat' (first | (apply v_read; (case hop => (apply r_loadNo; (case hx => rfl); (case h => repeat (exact mhd _)); (case hd => rfl); (case hn => rfl))); (case hd => rfl)) | apply v_seq | apply v_region | apply v_nil | (apply v_take; (case hg => rfl)) | (apply v_pure; (case hop => first | (apply p_move <;> rfl) | (apply p_eqs <;> rfl) | (apply p_not <;> rfl) | (apply p_build; (case hz => rfl); (case hv => (simp only [List.map_cons, List.map_nil]; repeat (with_reducible exact evs_nil))); (case hb => (apply bldL; repeat (exact bld_nil)))) | fail); (case hd => rfl)) | (apply v_condT; (case hc => rfl)) | (apply v_callJ (hs := qk); (case ha => rfl); (case hd => rfl)) | fail)
      refine v_call (μ1 := []) rfl (refWSame_s hv3 (ImV.zero G3)) (List.Perm.refl _) rfl ?_
      rintro _ G4 _ - ⟨hG4, rfl, b4, rfl, h4⟩
      subst hG4
      obtain rfl := h4 rfl
      repeat' (first | (apply v_take; (case hg => rfl)) | (apply v_pure; (case hop => first | (apply p_move <;> rfl) | (apply p_pickT <;> rfl) | fail); (case hd => rfl)) | fail)
      refine v_call (μ1 := []) rfl (qa _ (GH.le_trans hle2 hle3)) (List.Perm.refl _) rfl ?_
      rintro _ G9 _ - ⟨rfl, rfl⟩
      repeat' (first | apply v_nil | (apply v_pure; (case hop => first | (apply p_assign <;> rfl) | (apply p_pickT <;> rfl) | fail); (case hd => rfl)) | fail)
      refine v_ret [] (outsA1 rfl rfl) (by repeat (exact List.nil_sublist _)) ?_
      rfl
theorem clos_laid : laidOutB Tryz.prog = true := by kernel_rfl
theorem clos_rowed : mapsRowed Tryz.prog = true := by kernel_rfl
theorem clos_heard : Tryz.prog.stopsHeard = true := by kernel_rfl
theorem clos_may : Tryz.prog.mayEnter = true := by kernel_rfl
theorem clos_lifts : (Rows.specAppRow.lifted == Tryz.prog.liftsFinal) = true := by kernel_rfl
theorem clos_make : (Tryz.prog.make == some Rows.specAppRow.make) = true := by kernel_rfl
theorem clos_plain : (Rows.specAppRow.plainKeys == Tryz.prog.plainKeys) = true := by kernel_rfl
theorem clos_main : Tryz.prog.mainIs = some (true, "fd00f198de0f1bbff99678f964db4a91607ae39a2c1c259642fb503572231bd3".toList) := by kernel_rfl
theorem clos_looks : true = Tryz.prog.looks [] := by kernel_rfl
theorem windowOnce_own : ownKnob Tryz.prog.godebug = none := by kernel_rfl
theorem windowOnce_laidOut : laidOutB Tryz.prog = true := clos_laid
theorem windowOnce_spec : LawSpec Rows.windowOnceSpec 2 := ⟨rfl, fun H ds h => by match ds, h with | [d0, d1], _ => rfl⟩
set_option maxRecDepth 100000 in
theorem windowOnce_lifted (os : Os) (started : os.Started) (H : Type) (enc : TypeId × Value → H) :
    ReturnsInHanded {} Tryz.checked os 5 .any (fun w args => (Rows.windowOnceSpec.pre enc Tryz.prog Tryz.f5 Rows.windowOnceRow.domain false w args ∧ laidMetH Tryz.prog tabsLaid w) ∧ sizedMet enc Tryz.prog Tryz.f5 (OpenSpec.ofChange Rows.windowOnceSpec) false w args)
      (Rows.windowOnceSpec.post enc Tryz.prog Tryz.f5 false true false false) := by
  refine returnsInHanded_of_change_and (C := Tryz.checked) (X := fun w _ => laidMetH Tryz.prog tabsLaid w) (fun _ _ _ hh h => h.of_heap hh) windowOnce_own started (by kernel_rfl) Tryz.func5
    (ChangeSpec.witness_shaped (enc := enc) (C := Tryz.checked) (os := os) (X := fun w _ => laidMetH Tryz.prog tabsLaid w) false (World.laidAll Tryz.prog os tabsLaid) #[.slice none 0 0, .slice none 0 0] 8 (World.laidAll_os _ _ _)
      (World.shaped_of_ZipB (by kernel_rfl) (by kernel_rfl)) (by kernel_rfl) (by kernel_rfl) (by kernel_rfl)
      (by rw [MakeChecks.laidMetH_plain _ _ _ tabs_plain]; exact laidMet_laidAll _ (by kernel_rfl) (by kernel_rfl))) ?_
  intro W base args ds gs before hval0 hW hcnd _ hL _
  have hval : ∀ (j : Nat) t v, Tryz.f5.params[j]? = some t → args[j]? = some v → Value.okWide Tryz.prog W .any base t v := hval0
  refine law_post windowOnce_laidOut Tryz.underlying4 rfl windowOnce_spec rfl (by kernel_rfl) hW ?_
  obtain ⟨p, q, hA0, hV, rfl, hfz, hnd⟩ := hW
  have hA : DataW.TrodAll enc Tryz.prog W 0 (fun _ => true) true Tryz.f5.params.toList args.toList ds p := hA0
  rw [Tryz.params5] at hA hval
  obtain ⟨v0, vs0, d0, ds0, p0, q0, hargs, rfl, rfl, h0, r0⟩ := trodAll_cons hA
  obtain ⟨v1, vs1, d1, ds1, p1, q1, rfl, rfl, rfl, h1, r1⟩ := trodAll_cons r0
  obtain ⟨rfl, rfl, rfl⟩ := trodAll_nil r1
  obtain rfl : args = #[v0, v1] := by cases args; simp_all
  have g0 := arg_t49 (hval 0 49 v0 rfl rfl) h0
  have g1 := arg_t22 (hval 1 22 v1 rfl rfl) h1
  exact windowOnce_law (tabs_of_laid hL) g0 g1
theorem windowOnce_c_inPlace : (Rows.windowOnceRow.inPlace == Tryz.prog.inPlace 5) = true := by kernel_rfl
theorem windowOnce_c_unfollowed : (Rows.windowOnceRow.unfollowed == Tryz.prog.unfollowed 5) = true := by kernel_rfl
theorem windowOnce_c_recurses : (Rows.windowOnceRow.recurses == Tryz.prog.recurses 5) = true := by kernel_rfl
theorem windowOnce_c_named : (Rows.windowOnceRow.named == Tryz.prog.varsNamed 5) = true := by kernel_rfl
theorem windowOnce_c_lifted : (Rows.windowOnceRow.lifted == Tryz.prog.liftsFinal) = true := clos_lifts
theorem windowOnce_c_make : (Tryz.prog.make == some Rows.windowOnceRow.make) = true := clos_make
theorem windowOnce_c_plainKeys : (Rows.windowOnceRow.plainKeys == Tryz.prog.plainKeys) = true := clos_plain
theorem windowOnce_closed : joinedFacts Tryz.prog 5 Tryz.f5 Rows.windowOnceSpec Rows.windowOnceRow = true := by
  unfold joinedFacts
  rw [clos_laid, clos_rowed, clos_heard, clos_may, windowOnce_c_inPlace, windowOnce_c_unfollowed, windowOnce_c_recurses, windowOnce_c_named, windowOnce_c_lifted, windowOnce_c_make, windowOnce_c_plainKeys]
  kernel_rfl
theorem windowOnce_over : Rows.windowOnceRow.holds Tryz.pinned (OpenSpec.ofChange Rows.windowOnceSpec) :=
  OpenClaim.holds_of_wide 5 Tryz.f5 rfl rfl rfl rfl rfl rfl rfl ⟨rfl, rfl, rfl, rfl, rfl⟩ rfl rfl rfl rfl rfl (by kernel_rfl) Tryz.func5 windowOnce_closed
    (of_decide_eq_true (by kernel_rfl)) (by unfold Func.isWrapper; first | (rw [if_pos (by decide +kernel)]; kernel_rfl) | (rw [if_neg (by decide +kernel)]; exact ⟨rfl, rfl⟩))
    (fun os started H enc _ => windowOnce_lifted os started H enc)
theorem windowOnce_holds : Rows.WindowOnceSaid := windowOnce_over
theorem windowOnce_c_wft : Rows.windowOnceRow.wfByText (OpenSpec.ofChange Rows.windowOnceSpec) = true := by kernel_rfl
theorem windowOnce_c_func : Tryz.prog.funcNamed Rows.windowOnceRow.func = some 5 := by kernel_rfl
theorem windowOnce_c_stand : ([49, 22].all fun u => !Tryz.prog.wantsStandIn u) = true := by kernel_rfl
theorem windowOnce_c_goes : false = Rows.windowOnceRow.goesBy Tryz.prog := by kernel_rfl
theorem windowOnceCard_holds : Rows.WindowOnceCardSaid :=
  Claim7.holds_tied_plain_at .later [] [.data, .pinned] true (true, "fd00f198de0f1bbff99678f964db4a91607ae39a2c1c259642fb503572231bd3") true windowOnce_holds (fun _ h => by cases h) windowOnce_c_wft (fun _ h => by cases h) windowOnce_row_tie rfl ⟨rfl, rfl⟩ clos_main rfl
    (fun f fn hf hfn => by
      obtain rfl : f = 5 := Option.some.inj (windowOnce_c_func.symm.trans hf) |>.symm
      obtain rfl : fn = Tryz.f5 := (Option.some.inj (Tryz.func5.symm.trans hfn)).symm
      exact ⟨clos_looks, fun j t ht => by
        rw [Tryz.params5] at ht
        have hm : t ∈ [49, 22] := by simpa using Array.mem_of_getElem? ht
        exact (show Tryz.prog.wantsStandIn t = false by simpa using List.all_eq_true.1 windowOnce_c_stand t hm)⟩)
    windowOnce_c_goes
end Go.Proofs.YtmdeeokejdkceaaGreatDoor
