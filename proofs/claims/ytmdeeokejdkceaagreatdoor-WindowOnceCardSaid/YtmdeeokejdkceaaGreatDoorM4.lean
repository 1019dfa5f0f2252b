/-
  cmd.Owned; app (layer 28): a command applied.
-/
import Derived.Test.YtmdeeokejdkceaaGreatDoorM3
set_option linter.unusedSimpArgs false
set_option linter.unusedVariables false
namespace Go.Proofs.YtmdeeokejdkceaaGreatDoor
open Go.Vx Go.ChangeShapes Go.WideShapes Go.ChangeAt Go.RowKit
theorem ownB (k : Int) : decide (¬ band (cmdFields k).1 1 = 0) = decide (2 ≤ k ∧ k ≤ 5) := by
  rw [decide_eq_decide]
  unfold cmdFields
  by_cases h1 : k = 1 ∨ k = 6
  · rw [if_pos h1]; exact ⟨fun h => absurd band_0_1 h, fun h => absurd h (by omega)⟩
  rw [if_neg h1]
  by_cases h2 : k = 2
  · rw [if_pos h2]; exact ⟨fun _ => by omega, fun _ h => absurd (band_11_1.symm.trans h) (by decide)⟩
  rw [if_neg h2]
  by_cases h3 : k = 3 ∨ k = 4
  · rw [if_pos h3]; exact ⟨fun _ => by omega, fun _ h => absurd (band_3_1.symm.trans h) (by decide)⟩
  rw [if_neg h3]
  by_cases h4 : k = 5
  · rw [if_pos h4]; exact ⟨fun _ => by omega, fun _ h => absurd (band_15_1.symm.trans h) (by decide)⟩
  rw [if_neg h4]
  by_cases h5 : k = 7 ∨ k = 8
  · rw [if_pos h5]; exact ⟨fun h => absurd band_16_1 h, fun h => absurd h (by omega)⟩
  rw [if_neg h5]; exact ⟨fun h => absurd band_0_1 h, fun h => absurd h (by omega)⟩
theorem cmdOwned_s (G : GH) (c : Cm) : Con Tryz.prog 130 #[.agg c.cells.toArray] G [] (Just (.bool (decide (2 ≤ c.kind ∧ c.kind ≤ 5))) G) := by
  have q := fields_s G c.kind
  have hb := ownB c.kind
  apply Con.just
  obtain ⟨kind, client, seq, key, val, old, node⟩ := c
  simp only at *
  generalize cmdFields kind = f at *
  rw [← hb]
  (refine v_enter Tryz.func130 rfl Tryz.ntmps130 rfl ?_; intro B _)
  repeat' (first | (apply v_box (zs := Cm.cells ⟨kind, client, seq, key, val, old, node⟩); (case hx => rfl); (case hz => rfl); (case hd => rfl); intro b) | apply v_seq | apply v_region | apply v_nil | (apply v_pure; (case hop => first | (apply p_move <;> rfl) | (apply p_ne <;> rfl) | (apply p_assign <;> rfl) | (apply p_fieldAddrB <;> rfl) | (apply p_extract0 <;> rfl) | (apply p_extract1 <;> rfl) | (apply p_and64 <;> rfl) | fail); (case hd => rfl)) | (apply v_callJ (hs := q); (case ha => rfl); (case hd => rfl)) | (apply v_read; (case hop => (apply r_load1; rfl; (apply Cell.own; (case h => (repeat (exact mhd _))); rfl))); (case hd => rfl)) | fail)
  all_goals
    (refine v_ret [] (outsA1 rfl rfl) (by repeat (exact List.nil_sublist _)) ?_
     refine ⟨?_, rfl⟩
     (try simp only [dec_eq])
     first
       | rfl
       | (simp; done)
       | (simp_all; done))
def zeroSt : St := ⟨0, [], []⟩
theorem StV.zero (G : GH) : StV G zeroSt stZ := by
  refine ⟨none, 0, none, 0, rfl, ?_, ?_⟩
  · exact row_of_grow Pr.len (Grow.nil 144 3) (fun b o h => by cases h)
  · exact row_of_grow Ss.len (Grow.nil 146 8) (fun b o h => by cases h)
theorem StP.walk {s : St} (h : StP s) (hz : StZ s) : StW s := by
  obtain ⟨h1, h2⟩ := h
  obtain ⟨z1, z2, z3, z4⟩ := hz
  refine ⟨?_, z1, z3, ?_, riseG_pw.1 (adjS_rise h1.1), by omega⟩
  · rcases h2 with ⟨-, -, h⟩ | ⟨-, h⟩
    · exact riseG_pw.1 (adj_rise h.2.1)
    · exact riseG_pw.1 (adj_rise h.2.1)
  · intro x hx
    rcases h2 with ⟨-, -, h⟩ | ⟨-, h⟩
    · have := (h.2.2 x hx).2; omega
    · have := (h.2.2 x hx).2; omega
noncomputable def applyS (s : St) (c : Cm) : St × An × Int :=
  if cmdI c ≠ 0 then (zeroSt, zA, cmdI c)
  else if 2 ≤ c.kind ∧ c.kind ≤ 5 then ((clientS s c).1, (clientS s c).2, 0)
  else if c.kind = 6 ∧ s.schema = 1 then (upS s, zA, 0)
  else (s, zA, 0)
theorem TabsG.up {G G' : GH} (hle : GH.le G G') (h : TabsG G) : TabsG G' := fun w hw => h w fun b o hb => hw b o (hle b o hb)
theorem apply_s {G : GH} (hT : TabsG G) {s : St} {v : Value} (c : Cm) (hs : StV G s v) (hz : StZ s) (hok : StP s) (hc : c.ok) (hcw : CmW c) :
    Con Tryz.prog 71 #[v, .agg c.cells.toArray] G [] (fun r G' μ' => μ' = [] ∧ ∃ v', r = .tuple [v', .agg (applyS s c).2.1.cells.toArray, .int .i64 (applyS s c).2.2].toArray ∧ StV G' (applyS s c).1 v') := by
  have qk := migCheck_s hT hs hz
  rw [if_pos hok] at qk
  have qc := cmdCheck_s hT c hc
  obtain ⟨A, c0, A', c', rfl, hp, hss⟩ := id hs
  have hw := hok.walk hz
  unfold applyS
  have hcl := fun G' v' (h : StV G' s v') => client_s c h hw hcw
  have hcn := fun G' v' (h : StV G' s v') => migClone_s (G := G') h (by have := hz.2.2.1; omega) (by have := hz.2.2.2; omega)
  have hu1 := fun G' (hT : TabsG G') v' (h : StV G' s v') => migUp1_s hT h hz hok
  have hu2 := fun G' (hT : TabsG G') v' (h : StV G' s v') => migUp2_s hT h hz hok
  have how := fun G' => cmdOwned_s G' c
  obtain ⟨kind, cl, seq, key, val, old, node⟩ := c
  generalize cmdI ⟨kind, cl, seq, key, val, old, node⟩ = ci at *
  generalize clientS s ⟨kind, cl, seq, key, val, old, node⟩ = cs at *
  simp only at *
  (refine v_enter Tryz.func71 rfl Tryz.ntmps71 rfl ?_; intro B _)
  repeat' (first | (apply v_box (d := 2) (zs := [.int .i64 s.schema, .slice A s.pairs.length c0, .slice A' s.sess.length c']); (case hx => rfl); (case hz => rfl); (case hd => rfl); intro b2) | (apply v_box (d := 3) (zs := (Cm.cells ⟨kind, cl, seq, key, val, old, node⟩)); (case hx => rfl); (case hz => rfl); (case hd => rfl); intro b3) | (apply v_alloc (d := 4); (case hz => rfl); (case hd => rfl); intro b4) | (apply v_alloc (d := 5); (case hz => rfl); (case hd => rfl); intro b5) | (apply v_read; (case hop => (apply r_loadNo; (case hx => rfl); (case h => repeat (first | exact mhd _ | apply mtl)); (case hd => rfl); (case hn => rfl))); (case hd => rfl)) | apply v_seq | apply v_region | apply v_nil | apply v_skip | (apply v_pure; (case hop => first | (apply p_move <;> rfl) | (apply p_nes <;> rfl) | (apply p_assign <;> rfl) | fail); (case hd => rfl)) | (apply v_condF; (case hc => rfl)) | (apply v_callJ (hs := qk); (case ha => rfl); (case hd => rfl)) | fail)
  refine v_call (μ1 := []) rfl qc (List.Perm.refl _) rfl ?_
  rintro _ G1 _ hle1 ⟨rfl, rfl⟩
  have hT1 := hT.up hle1
  by_cases hci : ci = 0
  · rw [if_neg (by simp [hci])]
    subst hci
    repeat' (first | (apply v_read; (case hop => (apply r_loadNo; (case hx => rfl); (case h => repeat (first | exact mhd _ | apply mtl)); (case hd => rfl); (case hn => rfl))); (case hd => rfl)) | apply v_seq | apply v_region | apply v_nil | apply v_skip | (apply v_pure; (case hop => first | (apply p_move <;> rfl) | (apply p_nes <;> rfl) | (apply p_assign <;> rfl) | fail); (case hd => rfl)) | (apply v_condF; (case hc => rfl)) | fail)
    refine v_call (μ1 := []) rfl (hcn G1 _ (hs.up hle1)) (List.Perm.refl _) rfl ?_
    rintro _ G2 ν2 - ⟨hG2, bp, bs, rfl, rfl⟩
    subst hG2
    refine v_frz [(bs, .cells (rowC Ss.cells s.sess).toArray 146 (0, 0)), (bp, .cells (rowC Pr.cells s.pairs).toArray 144 (0, 0))] (PickA.here _) ?_
    intro G3 hle3 hG3
    have hs3 : StV G3 s _ := StV.made (s := s) (bp := bp) (bs := bs) (by have := hz.2.2.1; omega) (by have := hz.2.2.2; omega) (hG3 _ _ (by (repeat (first | exact mhd _ | apply mtl)))) (hG3 _ _ (by (repeat (exact mhd _))))
    have hT3 := hT1.up hle3
    have how3 := how G3
    repeat' (first | (apply v_read; (case hop => (apply r_loadNo; (case hx => rfl); (case h => repeat (first | exact mhd _ | apply mtl)); (case hd => rfl); (case hn => rfl))); (case hd => rfl)) | apply v_seq | apply v_region | apply v_nil | apply v_skip | (apply v_cond; (case hc => rfl); all_goals (intro h; (try simp only [reduceCtorEq, zzz] at h))) | (apply v_callJ (hs := how3); (case ha => rfl); (case hd => rfl)) | (apply v_store; (case hp => rfl); (case hx => rfl); (case hc => rfl); (case hsz => rfl); (case h1 => rfl); (case hb => (repeat (first | exact mhd _ | apply mtl))); (case hfit => exact nle rfl); (case hov => ((repeat (first | with_reducible exact ov_nil | apply ov_cons)); done)); (case hu => repeat (first | exact Upd.here _ _ | apply Upd.there))) | fail)
    · rw [if_pos (by assumption)]
      refine v_call (μ1 := []) rfl (hcl G3 _ hs3) (List.Perm.refl _) rfl ?_
      obtain ⟨cs1, ⟨ac, aq, ae, af, av, ar⟩⟩ := cs
      rintro _ G4 _ - ⟨hle4, rfl, v4, rfl, hs4⟩
      obtain ⟨A4, c4, A4', c4', rfl, -, -⟩ := id hs4
      repeat' (first | (apply v_alloc (d := 9); (case hz => rfl); (case hd => rfl); intro b9) | (apply v_alloc (d := 10); (case hz => rfl); (case hd => rfl); intro b10) | apply v_seq | apply v_nil | (apply v_pure; (case hop => first | (apply p_move <;> rfl) | (apply p_extract0 <;> rfl) | (apply p_extract1 <;> rfl) | fail); (case hd => rfl)) | (apply v_store; (case hp => rfl); (case hx => rfl); (case hc => rfl); (case hsz => rfl); (case h1 => rfl); (case hb => (repeat (first | exact mhd _ | apply mtl))); (case hfit => exact nle rfl); (case hov => ((repeat (first | with_reducible exact ov_nil | apply ov_cons)); done)); (case hu => repeat (first | exact Upd.here _ _ | apply Upd.there))) | fail)
      refine d_start [(b9, .cells [.int .i64 cs1.schema, .slice A4 cs1.pairs.length c4, .slice A4' cs1.sess.length c4'].toArray 32 (0, 0)), (b10, .cells [.int .i64 ac, .int .i64 aq, .int .i64 ae, .bool af, .string av, .int .i64 ar].toArray 40 (0, 0))] (by kernel_rfl) (by kernel_rfl) (by kernel_rfl) (by intro e he; (simp only [List.mem_cons, List.not_mem_nil, or_false] at he; rcases he with rfl | rfl <;> simp; done)) ?_
      all_goals (apply dtk 0; (case hi => rfl); (case hop => first | (apply r_loadNo; (case hx => rfl); (case h => (repeat (exact mhd _))); (case hd => (repeat (first | with_reducible exact dt_nil | apply dt_here))); (case hn => rfl)) | (apply r_load1; rfl; (apply Cell.own; (case h => (repeat (fail))); rfl)) | (apply r_loadN; rfl; (apply CellsAt.own; (case h => (repeat (fail)))); rfl)); (case hq => kernel_rfl))
      all_goals (apply dtk 1; (case hi => rfl); (case hop => first | (apply r_loadNo; (case hx => rfl); (case h => (repeat (first | exact mhd _ | apply mtl))); (case hd => (repeat (first | with_reducible exact dt_nil | apply dt_here))); (case hn => rfl)) | (apply r_load1; rfl; (apply Cell.own; (case h => (repeat (fail))); rfl)) | (apply r_loadN; rfl; (apply CellsAt.own; (case h => (repeat (fail)))); rfl)); (case hq => kernel_rfl))
      all_goals (apply d_store 2; (case hi => rfl); (case hr => kernel_rfl); (case hL => infer_instance); (case hp => rfl); (case hx => rfl); (case hc => rfl); (case hsz => rfl); (case h1 => rfl); (case hb => (repeat (first | exact mhd _ | apply mtl))); (case hfit => exact nle rfl); (case hov => ((repeat (first | with_reducible exact ov_nil | apply ov_cons)); done)); (case hu => repeat (first | exact Upd.here _ _ | apply Upd.there)); (case hν' => intro e he; (simp only [List.mem_cons, List.not_mem_nil, or_false] at he; rcases he with rfl | rfl <;> simp; done)))
      all_goals (apply d_store 3; (case hi => rfl); (case hr => kernel_rfl); (case hL => infer_instance); (case hp => rfl); (case hx => rfl); (case hc => rfl); (case hsz => rfl); (case h1 => rfl); (case hb => (repeat (first | exact mhd _ | apply mtl))); (case hfit => exact nle rfl); (case hov => ((repeat (first | with_reducible exact ov_nil | apply ov_cons)); done)); (case hu => repeat (first | exact Upd.here _ _ | apply Upd.there)); (case hν' => intro e he; (simp only [List.mem_cons, List.not_mem_nil, or_false] at he; rcases he with rfl | rfl <;> simp; done)))
      all_goals (apply dtk 4; (case hi => rfl); (case hop => (apply prd; apply p_assign <;> rfl)); (case hq => kernel_rfl))
      all_goals (apply d_done; (case hr => kernel_rfl))
      repeat' (fail)
      refine v_retM [] (outsM_cct (sz0 := 3) (vs0 := [.int .i64 cs1.schema, .slice A4 cs1.pairs.length c4, .slice A4' cs1.sess.length c4']) (e0 := 32) (sz1 := 6) (vs1 := [.int .i64 ac, .int .i64 aq, .int .i64 ae, .bool af, .string av, .int .i64 ar]) (e1 := 40) rfl rfl (by repeat (first | exact mhd _ | apply mtl)) rfl rfl (by repeat (first | exact mhd _ | apply mtl)) rfl rfl) (List.nil_sublist _) ⟨rfl, _, rfl, hs4⟩
    · rw [if_neg (by assumption)]
      by_cases h1 : s.schema = 1
      · refine v_call (μ1 := []) rfl (hu1 G3 hT3 _ hs3 h1) (List.Perm.refl _) rfl ?_
        rintro _ G4 ν4 - ⟨hG4, bp', bs', rfl, rfl⟩
        subst hG4
        refine v_frz [(bs', .cells (rowC Ss.cells s.sess).toArray 146 (0, 0)), (bp', .cells (rowC Pr.cells (upS s).pairs).toArray 144 (0, 0))] (PickA.here _) ?_
        intro G5 hle5 hG5
        have el : (upS s).pairs.length = s.pairs.length := List.length_map ..
        have hs5 := StV.made (G' := G5) (s := upS s) (bp := bp') (bs := bs') (by rw [el]; have := hz.2.2.1; omega) (by have := hz.2.2.2; show s.sess.length ≤ 200; omega) (hG5 _ _ (by (repeat (first | exact mhd _ | apply mtl)))) (hG5 _ _ (by (repeat (exact mhd _))))
        rw [el] at hs5
        have hs3' := hs3.up hle5
        repeat' (first | (apply v_alloc (d := 11); (case hz => rfl); (case hd => rfl); intro b11) | (apply v_read; (case hop => (apply r_loadNo; (case hx => rfl); (case h => repeat (first | exact mhd _ | apply mtl)); (case hd => rfl); (case hn => rfl))); (case hd => rfl)) | apply v_seq | apply v_region | apply v_nil | apply v_skip | (apply v_take; (case hg => rfl)) | (apply v_pass; (case hg => rfl); (case hn => rfl); (case hd => rfl)) | (apply v_pure; (case hop => first | (apply p_move <;> rfl) | (apply p_eqs <;> rfl) | (apply p_eq <;> rfl) | (apply p_assign <;> rfl) | (apply p_pickT <;> rfl) | (apply p_pickF <;> rfl) | (apply p_fieldAddrB <;> rfl) | (apply p_extract0 <;> rfl) | (apply p_extract1 <;> rfl) | (apply p_build; (case hz => rfl); (case hv => (simp only [List.map_cons, List.map_nil]; repeat (with_reducible exact evs_nil))); (case hb => (apply bldL; repeat (exact bld_nil)))) | fail); (case hd => rfl)) | (apply v_condT; (case hc => rfl)) | (apply v_condF; (case hc => rfl)) | (apply v_guardB; (case h1 => rfl); (case h2 => rfl); all_goals (intro h; (try simp only [reduceCtorEq, zzz] at h))) | (apply v_read; (case hop => (apply r_load1; rfl; (apply Cell.own; (case h => (repeat (first | exact mhd _ | apply mtl))); rfl))); (case hd => rfl)) | (apply v_store; (case hp => rfl); (case hx => rfl); (case hc => rfl); (case hsz => rfl); (case h1 => rfl); (case hb => (repeat (first | exact mhd _ | apply mtl))); (case hfit => exact nle rfl); (case hov => (first | ((repeat (first | with_reducible exact ov_nil | apply ov_cons)); done) | rfl)); (case hu => repeat (first | exact Upd.here _ _ | apply Upd.there))) | fail)
        · rw [if_pos ⟨by assumption, h1⟩]
          refine v_retM [] (outsM_cct (sz0 := 3) (vs0 := [.int .i64 2, .slice (some ⟨bp', 0, none⟩) s.pairs.length s.pairs.length, .slice (some ⟨bs', 0, none⟩) s.sess.length s.sess.length]) (e0 := 32) (sz1 := 6) (vs1 := zA.cells) (e1 := 40) rfl rfl (by repeat (first | exact mhd _ | apply mtl)) rfl rfl (by repeat (first | exact mhd _ | apply mtl)) rfl rfl) (List.nil_sublist _) ⟨rfl, _, rfl, hs5⟩
        · rw [if_neg (fun h => absurd h.1 (by assumption))]
          refine v_retM [] (outsM_cct (sz0 := 3) (vs0 := [.int .i64 s.schema, .slice (some ⟨bp, 0, none⟩) s.pairs.length s.pairs.length, .slice (some ⟨bs, 0, none⟩) s.sess.length s.sess.length]) (e0 := 32) (sz1 := 6) (vs1 := zA.cells) (e1 := 40) rfl rfl (by repeat (first | exact mhd _ | apply mtl)) rfl rfl (by repeat (first | exact mhd _ | apply mtl)) rfl rfl) (List.nil_sublist _) ⟨rfl, _, rfl, hs3'⟩
      · rw [if_neg (fun h => h1 h.2)]
        have h2 : s.schema = 2 := by
          rcases hok.2 with h | h
          · exact absurd h.1 h1
          · exact h.1
        refine v_call (μ1 := []) rfl (hu2 G3 hT3 _ hs3 h2) (List.Perm.refl _) rfl ?_
        rintro _ G4 ν4 - ⟨rfl, hG4, rfl⟩
        try subst hG4
        repeat' (first | (apply v_alloc (d := 11); (case hz => rfl); (case hd => rfl); intro b11) | (apply v_read; (case hop => (apply r_loadNo; (case hx => rfl); (case h => repeat (first | exact mhd _ | apply mtl)); (case hd => rfl); (case hn => rfl))); (case hd => rfl)) | apply v_seq | apply v_region | apply v_nil | apply v_skip | (apply v_take; (case hg => rfl)) | (apply v_pass; (case hg => rfl); (case hn => rfl); (case hd => rfl)) | (apply v_pure; (case hop => first | (apply p_move <;> rfl) | (apply p_eq <;> rfl) | (apply p_assign <;> rfl) | (apply p_pickT <;> rfl) | (apply p_pickF <;> rfl) | (apply p_fieldAddrB <;> rfl) | (apply p_extract0 <;> rfl) | (apply p_extract1 <;> rfl) | (apply p_build; (case hz => rfl); (case hv => (simp only [List.map_cons, List.map_nil]; repeat (with_reducible exact evs_nil))); (case hb => (apply bldL; repeat (exact bld_nil)))) | fail); (case hd => rfl)) | (apply v_condF; (case hc => rfl)) | (apply v_cond; (case hc => rfl); all_goals (intro h; (try simp only [reduceCtorEq, zzz] at h); first | (exfalso; omega) | skip)) | (apply v_guardB; (case h1 => rfl); (case h2 => rfl); all_goals (intro h; (try simp only [reduceCtorEq, zzz] at h))) | (apply v_read; (case hop => (apply r_load1; rfl; (apply Cell.own; (case h => (repeat (first | exact mhd _ | apply mtl))); rfl))); (case hd => rfl)) | (apply v_store; (case hp => rfl); (case hx => rfl); (case hc => rfl); (case hsz => rfl); (case h1 => rfl); (case hb => (repeat (first | exact mhd _ | apply mtl))); (case hfit => exact nle rfl); (case hov => (first | ((repeat (first | with_reducible exact ov_nil | apply ov_cons)); done) | rfl)); (case hu => repeat (first | exact Upd.here _ _ | apply Upd.there))) | fail)
        all_goals
          refine v_retM [] (outsM_cct (sz0 := 3) (vs0 := [.int .i64 s.schema, .slice (some ⟨bp, 0, none⟩) s.pairs.length s.pairs.length, .slice (some ⟨bs, 0, none⟩) s.sess.length s.sess.length]) (e0 := 32) (sz1 := 6) (vs1 := zA.cells) (e1 := 40) rfl rfl (by repeat (first | exact mhd _ | apply mtl)) rfl rfl (by repeat (first | exact mhd _ | apply mtl)) rfl rfl) (List.nil_sublist _) ⟨rfl, _, rfl, hs3⟩
  · rw [if_pos (by simp [hci])]
    repeat' (first | apply v_seq | apply v_region | apply v_nil | (apply v_pure; (case hop => first | (apply p_move <;> rfl) | (apply p_ne <;> rfl) | (apply p_assign <;> rfl) | (apply p_build; (case hz => rfl); (case hv => (simp only [List.map_cons, List.map_nil]; repeat (with_reducible exact evs_nil))); (case hb => (apply bldL; repeat (exact bld_nil)))) | fail); (case hd => rfl)) | (apply v_cond; (case hc => rfl); all_goals (intro h; (try simp only [reduceCtorEq, zzz] at h); first | (exfalso; omega) | skip)) | (apply v_store; (case hp => rfl); (case hx => rfl); (case hc => rfl); (case hsz => rfl); (case h1 => rfl); (case hb => (repeat (first | exact mhd _ | apply mtl))); (case hfit => exact nle rfl); (case hov => ((repeat (first | with_reducible exact ov_nil | apply ov_cons)); done)); (case hu => repeat (first | exact Upd.here _ _ | apply Upd.there))) | fail)
    refine v_retM [] (outsM_cct (sz0 := 3) (vs0 := [.int .i64 0, .slice none 0 0, .slice none 0 0]) (e0 := 32) (sz1 := 6) (vs1 := zA.cells) (e1 := 40) rfl rfl (by repeat (first | exact mhd _ | apply mtl)) rfl rfl (by repeat (exact mhd _)) rfl rfl) (List.nil_sublist _) ⟨rfl, _, rfl, StV.zero _⟩
def RevOk (z : Int) (x : Pr) : Prop := (z = 1 ∧ x.rev = 0) ∨ (z = 2 ∧ 1 ≤ x.rev ∧ x.rev ≤ 4294967296)
def PsOk (z : Int) (l : List Pr) : Prop := l.length ≤ 64 ∧ RiseW ksP l ∧ ∀ x ∈ l, PrOk x ∧ RevOk z x
theorem stP_iff {s : St} : StP s ↔ SesP s.sess ∧ (s.schema = 1 ∨ s.schema = 2) ∧ PsOk s.schema s.pairs ∧ (s.schema = 1 → s.sess.any revS = false) := by
  obtain ⟨z, lp, ls⟩ := s
  unfold StP PsOk OneP TwoP
  simp only
  constructor
  · rintro ⟨h1, ⟨rfl, h2, h3, h4, h5⟩ | ⟨rfl, h3, h4, h5⟩⟩
    · exact ⟨h1, .inl rfl, ⟨h3, riseG_pw.1 (adj_rise h4), fun x hx => ⟨(h5 x hx).1, .inl ⟨rfl, (h5 x hx).2⟩⟩⟩, fun _ => h2⟩
    · exact ⟨h1, .inr rfl, ⟨h3, riseG_pw.1 (adj_rise h4), fun x hx => ⟨(h5 x hx).1, .inr ⟨rfl, (h5 x hx).2⟩⟩⟩, fun h => absurd h (by omega)⟩
  · rintro ⟨h1, rfl | rfl, ⟨h3, h4, h5⟩, h2⟩
    · refine ⟨h1, .inl ⟨rfl, h2 rfl, h3, rise_adj (riseG_pw.2 h4), fun x hx => ⟨(h5 x hx).1, ?_⟩⟩⟩
      rcases (h5 x hx).2 with h | h
      · exact h.2
      · exact absurd h.1 (by omega)
    · refine ⟨h1, .inr ⟨rfl, h3, rise_adj (riseG_pw.2 h4), fun x hx => ⟨(h5 x hx).1, ?_⟩⟩⟩
      rcases (h5 x hx).2 with h | h
      · exact absurd h.1 (by omega)
      · exact h.2
theorem keyB_size {s : ByteArray} (h : keyB s = true) : s.size ≤ 24 := by
  unfold keyB at h
  simp only [Bool.and_eq_true, decide_eq_true_eq] at h
  exact h.1.2
theorem valB_size {s : ByteArray} (h : valB s = true) : s.size ≤ 48 := by
  unfold valB at h
  simp only [Bool.and_eq_true, decide_eq_true_eq] at h
  exact h.1.1
theorem valB_empty : valB ByteArray.empty = true := by
  unfold valB
  have h0 : ByteArray.empty.size = 0 := rfl
  simp only [Bool.and_eq_true, decide_eq_true_eq, h0]
  refine ⟨⟨by omega, by unfold badR; omega⟩, fun i hi => by omega⟩
theorem ses_few : ∀ (l : List Ss) (a : Int), RiseW ksS l → (∀ x ∈ l, a ≤ x.client ∧ x.client ≤ 8) → a ≤ 9 → (l.length : Int) ≤ 9 - a
  | [], a, _, _, ha => by simp; omega
  | x :: l, a, h, hx, ha => by
    have h1 := List.pairwise_cons.1 h
    have h2 := hx x List.mem_cons_self
    have := ses_few l (x.client + 1) h1.2 (fun y hy => ⟨by have := h1.1 y hy; simp only [ksS] at this; omega, (hx y (List.mem_cons_of_mem _ hy)).2⟩) (by omega)
    simp only [List.length_cons]
    omega
theorem sesP_few {l : List Ss} (h : SesP l) : l.length ≤ 8 := by
  have := ses_few l 1 (riseG_pw.1 (adjS_rise h.1)) (fun x hx => by
    obtain ⟨h1, h2, h3⟩ := h.2 x hx
    have h4 := (ansI_zero.1 h3).1.1
    omega) (by omega)
  omega
theorem StP.small {s : St} (h : StP s) : StZ s := by
  obtain ⟨h1, h2, ⟨h3, h4, h5⟩, h6⟩ := stP_iff.1 h
  refine ⟨fun x hx => ?_, fun x hx => ?_, by omega, by have := sesP_few h1; omega⟩
  · have := (h5 x hx).1
    have a := keyB_size this.1
    have b := valB_size this.2
    omega
  · have := valB_size (ansI_zero.1 (h1.2 x hx).2.2).2
    omega
theorem withG_ok {z : Int} {l : List Pr} {p : Pr} (h : PsOk z l) (hp : PrOk p) (hr : RevOk z p) (hroom : roomB l (kn p.key) = true) : PsOk z (withG ksP l p) := by
  obtain ⟨h1, h2, h3⟩ := h
  refine ⟨?_, withG_rise h2 p, fun x hx => ?_⟩
  · rw [withG_len h2]
    unfold roomB at hroom
    rw [Bool.or_eq_true, decide_eq_true_eq] at hroom
    split
    · exact h1
    · rename_i hn
      rcases hroom with h | h
      · exact absurd h hn
      · omega
  · rcases withG_mem hx with rfl | hx
    · exact ⟨hp, hr⟩
    · exact h3 x hx
theorem filter_ok {z : Int} {l : List Pr} (f : Pr → Bool) (h : PsOk z l) : PsOk z (l.filter f) :=
  ⟨Nat.le_trans (List.length_filter_le _ _) h.1, h.2.1.sublist List.filter_sublist, fun x hx => h.2.2 x (List.mem_filter.1 hx).1⟩
theorem findP_val {z : Int} {l : List Pr} (h : PsOk z l) (n : Int) : valB (findP l n).val = true ∧ 0 ≤ (findP l n).rev ∧ (findP l n).rev ≤ 4294967296 := by
  unfold findP
  split
  · have := h.2.2 _ (List.getElem_mem (hitG_lt (by assumption)))
    refine ⟨this.1.2, ?_⟩
    rcases this.2 with h | h <;> omega
  · exact ⟨valB_empty, by decide, by decide⟩
def AnOk (z : Int) (c : Cm) (a : An) : Prop := a.client = c.client ∧ a.seq = c.seq ∧ (0 ≤ a.err ∧ a.err ≤ 17) ∧ (0 ≤ a.rev ∧ a.rev ≤ 4294967296) ∧ valB a.val = true ∧ (z = 1 → a.rev = 0)
theorem nextR_le {r : Int} (h : 0 ≤ r) : 1 ≤ nextR r ∧ nextR r ≤ 4294967296 := by unfold nextR; omega
theorem doOne_an {z : Int} {l : List Pr} (c : Cm) (h : PsOk z l) : AnOk z c (doOne l c).2 ∧ (doOne l c).2.rev = 0 := by
  have hf := (findP_val h (kn c.key)).1
  unfold doOne AnOk ans0
  (repeat' split) <;> (refine ⟨⟨rfl, rfl, by simp, by simp, ?_, fun _ => rfl⟩, rfl⟩; first | exact hf | exact valB_empty)
theorem doOne_ok {l : List Pr} (c : Cm) (h : PsOk 1 l) (hk : keyB c.key = true) (hv : c.kind = 2 → valB c.val = true) : PsOk 1 (doOne l c).1 := by
  unfold doOne
  split
  · split
    · exact withG_ok h ⟨hk, hv (by assumption)⟩ (.inl ⟨rfl, rfl⟩) (by assumption)
    · exact h
  · split
    · exact h
    · split
      · exact filter_ok _ h
      · exact h
theorem room_of_hit {l : List Pr} {n : Int} (h : hitG ksP l n = true) : roomB l n = true := by unfold roomB; rw [h]; rfl
theorem doTwo_ok {l : List Pr} (c : Cm) (h : PsOk 2 l) (hk : keyB c.key = true) (hv : c.kind = 2 ∨ c.kind = 5 → valB c.val = true) : PsOk 2 (doTwo l c).1 := by
  have hf := findP_val h (kn c.key)
  have hn := nextR_le hf.2.1
  unfold doTwo
  split
  · unfold casP
    split
    · exact h
    · rename_i h5 hh
      split
      · exact withG_ok h ⟨hk, hv (by omega)⟩ (.inr ⟨rfl, hn⟩) (room_of_hit (by simpa using hh))
      · exact h
  · split
    · rename_i h5 hc
      unfold doOne at hc ⊢
      rw [if_pos hc.1] at hc ⊢
      split
      · simp only
        rw [withG_twice (by rfl)]
        exact withG_ok h ⟨hk, hv (by omega)⟩ (.inr ⟨rfl, hn⟩) (by assumption)
      · rename_i hr
        rw [if_neg hr] at hc
        exact absurd hc.2 (by simp)
    · rename_i h5 hc
      unfold doOne at hc ⊢
      split
      · rename_i h2
        rw [if_pos h2] at hc
        split
        · rename_i hr
          rw [if_pos hr] at hc
          exact absurd ⟨h2, rfl⟩ hc
        · exact h
      · split
        · exact h
        · split
          · exact filter_ok _ h
          · exact h
theorem doTwo_an {l : List Pr} (c : Cm) (h : PsOk 2 l) : AnOk 2 c (doTwo l c).2 := by
  have hf := findP_val h (kn c.key)
  have hn := nextR_le hf.2.1
  have ho := (doOne_an c h).1
  unfold doTwo
  split
  · unfold casP AnOk ans0
    (repeat' split) <;> (refine ⟨rfl, rfl, by simp, ?_, ?_, fun h => absurd h (by omega)⟩ <;> first | exact hf.1 | exact valB_empty | (simp; done) | (simp; omega) | fail)
  · split
    · exact ho
    · exact ho
theorem doS_ok {z : Int} {l : List Pr} (c : Cm) (hz : z = 1 ∨ z = 2) (h : PsOk z l) (hk : keyB c.key = true) (hv : c.kind = 2 ∨ c.kind = 5 → valB c.val = true) : PsOk z (doS z l c).1 ∧ AnOk z c (doS z l c).2 := by
  unfold doS
  rcases hz with rfl | rfl
  · rw [if_pos rfl]
    exact ⟨doOne_ok c h hk (fun h => hv (.inl h)), (doOne_an c h).1⟩
  · rw [if_neg (by omega)]
    exact ⟨doTwo_ok c h hk hv, doTwo_an c h⟩
theorem sesAt_mem {l : List Ss} {n : Int} (hr : RiseW ksS l) (h : hitG ksS l n = true) : sesAt l n ∈ l ∧ (sesAt l n).client = n := by
  rcases hit_parts hr n with ⟨hlt, h1, h2, -⟩ | ⟨h1, -, -⟩
  · unfold sesAt
    rw [dif_pos h]
    exact ⟨List.getElem_mem _, h2⟩
  · rw [h1] at h; cases h
theorem withS_ok {l : List Ss} {a : An} (h : SesP l) (ha : ansI a = 0) : SesP (withG ksS l (sesOf a)) := by
  refine ⟨rise_adjS (riseG_pw.2 (withG_rise (riseG_pw.1 (adjS_rise h.1)) _)), fun x hx => ?_⟩
  rcases withG_mem hx with rfl | hx
  · exact ⟨rfl, rfl, ha⟩
  · exact h.2 x hx
theorem anOk_ans {z : Int} {c : Cm} {a : An} (h : AnOk z c a) (h1 : 1 ≤ c.client ∧ c.client ≤ 8) (h2 : 1 ≤ c.seq ∧ c.seq ≤ 4294967296) : ansI a = 0 := by
  obtain ⟨e1, e2, e3, e4, e5, e6⟩ := h
  exact ansI_zero.2 ⟨⟨by rw [e1]; exact h1, by rw [e2]; exact h2, e3, e4⟩, e5⟩
theorem cmd_ok {c : Cm} (h : cmdI c = 0) : (1 ≤ c.kind ∧ c.kind ≤ 8) ∧ ((2 ≤ c.kind ∧ c.kind ≤ 5) → (1 ≤ c.client ∧ c.client ≤ 8) ∧ (1 ≤ c.seq ∧ c.seq ≤ 4294967296) ∧ keyB c.key = true) ∧ (c.kind = 2 ∨ c.kind = 5 → valB c.val = true) := by
  rw [cmdI_eq] at h
  unfold cmdE at h
  split at h
  · exact absurd h (by omega)
  split at h
  · exact absurd h (by omega)
  split at h
  · exact absurd h (by omega)
  rename_i h1 h2 h3
  refine ⟨by omega, fun ho => ⟨by omega, by omega, ?_⟩, fun hk => ?_⟩
  · cases hb : keyB c.key with
    | true => rfl
    | false => exact absurd (.inl ⟨ho, hb⟩) h3
  · cases hb : valB c.val with
    | true => rfl
    | false => exact absurd (.inr (.inl ⟨hk, hb⟩)) h3
theorem which_ok {l : List Ss} (h : SesP l) {n q : Int} (hw : (whichS l n q).1 = 1) : ∃ x ∈ l, x.client = n ∧ x.seq = q ∧ (whichS l n q).2 = x.last ∧ SsOk x := by
  unfold whichS at hw ⊢
  split at hw
  · exact absurd hw (by simp)
  split at hw
  · exact absurd hw (by simp)
  split at hw
  · rename_i h1 h2 h3
    have hm := sesAt_mem (riseG_pw.1 (adjS_rise h.1)) (by simpa using h1)
    rw [if_neg h1, if_neg h2, if_pos h3]
    exact ⟨_, hm.1, hm.2, h3.symm, rfl, h.2 _ hm.1⟩
  · exact absurd hw (by simp)
theorem clientS_ok {s : St} {c : Cm} (h : StP s) (hc : cmdI c = 0) (ho : 2 ≤ c.kind ∧ c.kind ≤ 5) : StP (clientS s c).1 ∧ ansI (clientS s c).2 = 0 ∧ (clientS s c).2.client = c.client ∧ (clientS s c).2.seq = c.seq := by
  obtain ⟨h1, h2, h3, h4⟩ := stP_iff.1 h
  obtain ⟨c1, c2, c3⟩ := cmd_ok hc
  obtain ⟨c4, c5, c6⟩ := c2 ho
  unfold clientS
  split
  · rename_i hw
    obtain ⟨x, hx, e1, e2, e3, e4, e5, e6⟩ := which_ok h1 hw
    rw [e3]
    exact ⟨h, e6, e4.trans e1, e5.trans e2⟩
  split
  · exact ⟨h, anOk_ans (z := 2) (c := c) ⟨rfl, rfl, by simp, by simp [ans0], valB_empty, fun h => absurd h (by omega)⟩ c4 c5, rfl, rfl⟩
  split
  · have hd := doS_ok c h2 h3 c6 c3
    have ha := anOk_ans hd.2 c4 c5
    refine ⟨stP_iff.2 ⟨withS_ok h1 ha, h2, hd.1, fun hz => ?_⟩, ha, hd.2.1, hd.2.2.1⟩
    rw [List.any_eq_false]
    intro x hx
    rcases withG_mem hx with rfl | hx
    · have := hd.2.2.2.2.2.2 hz
      unfold revS
      rw [decide_eq_false (by simpa [sesOf] using this)]
      simp
    · exact List.any_eq_false.1 (h4 hz) x hx
  · exact ⟨h, anOk_ans (z := 2) (c := c) ⟨rfl, rfl, by simp, by simp [ans0], valB_empty, fun h => absurd h (by omega)⟩ c4 c5, rfl, rfl⟩
theorem upS_ok {s : St} (h : StP s) (h1 : s.schema = 1) : StP (upS s) := by
  obtain ⟨h1, h2, ⟨h3, h4, h5⟩, h6⟩ := stP_iff.1 h
  refine stP_iff.2 ⟨h1, .inr rfl, ⟨?_, ?_, ?_⟩, fun hz => absurd (show (2 : Int) = 1 from hz) (by omega)⟩
  · show (s.pairs.map (revOf 1)).length ≤ 64
    rw [List.length_map]; exact h3
  · show RiseW ksP (s.pairs.map (revOf 1))
    exact List.pairwise_map.2 h4
  · intro x hx
    obtain ⟨y, hy, rfl⟩ := List.mem_map.1 hx
    exact ⟨(h5 y hy).1, .inr ⟨rfl, by simp [revOf], by simp [revOf]⟩⟩
theorem applyS_ok {s : St} {c : Cm} (h : StP s) (he : (applyS s c).2.2 = 0) : StP (applyS s c).1 ∧ cmdI c = 0 := by
  unfold applyS at he ⊢
  by_cases hc : cmdI c = 0
  · refine ⟨?_, hc⟩
    rw [if_neg (by simp [hc])]
    split
    · exact (clientS_ok h hc (by assumption)).1
    · split
      · rename_i h1
        exact upS_ok h h1.2
      · exact h
  · rw [if_pos hc] at he
    exact absurd he hc
abbrev Cms (G : GH) (v : Value) (l : List Cm) : Prop := Sl G 7 (RowR Cm.cells) v l
abbrev zAn : Value := .agg #[.int .i64 0, .int .i64 0, .int .i64 0, .bool false, .string ByteArray.empty, .int .i64 0]
abbrev GrA (v : Value) (l : List An) (ν : OH) : Prop := Grow 40 6 v l.length (rowC An.cells l) ν
theorem GrA.snoc {v : Value} {l : List An} {a : An} {ν : OH} (h : Grow 40 6 v (l.length + 1) (rowC An.cells l ++ a.cells) ν) : GrA v (l ++ [a]) ν := by
  unfold GrA
  rw [List.length_append, List.length_singleton, rowC_append, rowC_cons, rowC_nil, List.append_nil]
  exact h
def CmsW (l : List Cm) : Prop := l.length ≤ 100 ∧ ∀ c ∈ l, c.ok ∧ CmW c
theorem rowOpen' {α : Type} {f : α → List Value} {sz : Nat} {G : GH} {A : Option Addr} {n c : Nat} {l : List α} (h : Sl G sz (RowR f) (.slice A n c) l) : True ∧ True ∧ True ∧ True ∧ True ∧ True ∧ (∀ i (h : i < l.length), CellsG G ((adr A).add (i * sz)) (f l[i])) := by
  obtain ⟨A', c', e, -, -, -, h5⟩ := rowOpen h
  cases e
  exact ⟨trivial, trivial, trivial, trivial, trivial, trivial, h5⟩
def Lg (p : Prop) (G : GH) : Value → GH → OH → Prop := fun r G' μ' => G' = G ∧ μ' = [] ∧ ∃ b, r = .bool b ∧ (b = false → p)
theorem lastAt {G : GH} {a : Addr} {x : Ss} (h : CellsG G a x.cells) : CellsG G (a.add 2) x.last.cells := fun j v hv => by
  rw [add_add]
  refine h (2 + j) v ?_
  rw [Nat.add_comm]
  exact hv
def CmsS (l : List Cm) : Prop := l.length ≤ 60 ∧ ∀ c ∈ l, c.key.size ≤ 200 ∧ c.val.size ≤ 200 ∧ c.old.size ≤ 200
theorem lg28_s {G : GH} {l : List Cm} {sv : Value} (hs : Cms G sv l) : Con Tryz.prog 10 #[sv] G [] (Lg (CmsS l) G) := by
  obtain ⟨A, c, rfl, hlc, hcm, hsome, hcp⟩ := rowOpen hs
  simp only [maxLen] at hcm
  (refine v_enter Tryz.func10 rfl Tryz.ntmps10 rfl ?_; intro B _)
  repeat' (first | apply v_seq | apply v_region | apply v_nil | apply v_block | (apply v_pure; (case hop => (apply p_assign <;> rfl)); (case hd => rfl)) | fail)
  refine v_loop [3, 0] (fun us G' μ' => G' = G ∧ μ' = [] ∧ ∃ k : Nat, k ≤ l.length ∧ us = [Value.int .i64 (k : Nat), .slice A l.length c] ∧ ∀ i (h : i < l.length), i < k → l[i].key.size ≤ 200 ∧ l[i].val.size ≤ 200 ∧ l[i].old.size ≤ 200) (fun us => l.length - (headI us).toNat) rfl ⟨rfl, rfl, 0, by omega, rfl, by omega⟩ ?_
  rintro us G' _ ⟨rfl, rfl, k, hk, rfl, hno⟩
  have hend : 60 ≤ k ∨ l.length ≤ k → l.length ≤ 60 → CmsS l := fun h1 h2 => ⟨h2, fun x hx => by
    obtain ⟨i, hi, rfl⟩ := List.getElem_of_mem hx
    exact hno i hi (by omega)⟩
  by_cases hlt : k < l.length
  · have e1 : ((k : Nat) : Int).toNat = k := by omega
    have hA := hsome (by omega)
    have hc0 := (hcp k hlt).cell (j := 3) rfl
    have hc1 := (hcp k hlt).cell (j := 4) rfl
    have hc2 := (hcp k hlt).cell (j := 5) rfl
    have hnx : (l[k]).key.size ≤ 200 ∧ (l[k]).val.size ≤ 200 ∧ (l[k]).old.size ≤ 200 → ∀ i (h : i < l.length), i < k + 1 → l[i].key.size ≤ 200 ∧ l[i].val.size ≤ 200 ∧ l[i].old.size ≤ 200 := fun a2 i hi hik => by
      by_cases e : i = k
      · subst e; exact a2
      · exact hno i hi (by omega)
    generalize (l[k]).key = x at *
    generalize (l[k]).val = y at *
    generalize (l[k]).old = z at *
    repeat' (first | apply v_seq | apply v_region | apply v_nil | apply v_skip | apply v_block | apply v_blk | (apply v_exit; (case hp => rfl)) | (apply v_take; (case hg => rfl)) | (apply v_pass; (case hg => rfl); (case hn => rfl); (case hd => rfl)) | (apply v_pure; (case hop => first | (apply p_move <;> rfl) | (apply p_lt <;> rfl) | (apply p_gt <;> rfl) | (apply p_assign <;> rfl) | (apply p_pickT <;> rfl) | (apply p_pickF <;> rfl) | (apply p_lenSlice <;> rfl) | (apply p_fieldAddr <;> rfl) | (apply p_add; (case hx => rfl); (case hy => rfl); (case h => omega)) | (apply p_indexAddrS; (case hx => rfl); (case hi => rfl); (case h0 => omega); (case h => omega); (case hA => assumption)) | (apply p_lenString <;> rfl) | fail); (case hd => rfl)) | (apply v_condT; (case hc => rfl)) | (apply v_cond; (case hc => rfl); all_goals (intro h; (try simp only [reduceCtorEq, zzz] at h))) | (apply v_guardB; (case h1 => rfl); (case h2 => rfl); all_goals (intro h; (try simp only [reduceCtorEq, zzz] at h); first | (exfalso; omega) | skip)) | (apply v_read; (case hop => (apply r_load1; rfl; exact Cell.frozen hc0)); (case hd => rfl)) | (apply v_read; (case hop => (apply r_load1; rfl; exact Cell.frozen hc1)); (case hd => rfl)) | (apply v_read; (case hop => (apply r_load1; rfl; exact Cell.frozen hc2)); (case hd => rfl)) | fail)
    all_goals first
      | (refine v_again rfl ⟨rfl, rfl, k + 1, by omega, rfl, hnx (by omega)⟩ (by simp [headI]; omega))
      | (refine v_ret [] (outsA1 rfl rfl) (by repeat (exact List.Sublist.refl _)) ?_
         exact ⟨rfl, rfl, _, rfl, fun h => by first | cases h | exact hend (by omega) (by (rw [dec_eq, decide_eq_false_iff_not] at h; omega))⟩)
  · repeat' (first | apply v_seq | apply v_region | apply v_nil | (apply v_exit; (case hp => rfl)) | (apply v_pass; (case hg => rfl); (case hn => rfl); (case hd => rfl)) | (apply v_pure; (case hop => first | (apply p_move <;> rfl) | (apply p_lt <;> rfl) | (apply p_gt <;> rfl) | (apply p_assign <;> rfl) | (apply p_pickF <;> rfl) | (apply p_lenSlice <;> rfl) | fail); (case hd => rfl)) | (apply v_condF; (case hc => rfl)) | (apply v_guardB; (case h1 => rfl); (case h2 => rfl); all_goals (intro h; (try simp only [reduceCtorEq, zzz] at h); first | (exfalso; omega) | skip)) | fail)
    all_goals
      (refine v_ret [] (outsA1 rfl rfl) (by repeat (exact List.Sublist.refl _)) ?_
       exact ⟨rfl, rfl, _, rfl, fun h => by first | exact hend (by omega) (by (rw [dec_eq, decide_eq_false_iff_not] at h; omega))⟩)
def Sm (p : Prop) (G : GH) : Value → GH → OH → Prop := fun r G' μ' => G' = G ∧ μ' = [] ∧ ∃ b, r = .bool b ∧ (p → b = true)
theorem pr_feq (x y : Pr) : ∃ q, FEq Tryz.prog 9999 x.cells y.cells [⟨"Key", 9, 0, false, "", "", 0⟩, ⟨"Val", 9, 1, false, "", "", 16⟩, ⟨"Rev", 3, 2, false, "", "", 32⟩] q ∧ (x = y → q = true) :=
  ⟨_, feq_str (bytes := 16) (zero := .string ByteArray.empty) (sz := 1) (a := x.key) (b := y.key) rfl rfl rfl (feq_str (bytes := 16) (zero := .string ByteArray.empty) (sz := 1) (a := x.val) (b := y.val) rfl rfl rfl (feq_int (k := .i64) (bytes := 8) (zero := .int .i64 0) (sz := 1) (a := x.rev) (b := y.rev) rfl rfl rfl feq_nil)), by rintro rfl; simp [dec_true]⟩
theorem an_feqD (d : Nat) (x y : An) : ∃ q, FEq Tryz.prog (d + 1) x.cells y.cells [⟨"Client", 3, 0, false, "", "", 0⟩, ⟨"Seq", 3, 1, false, "", "", 8⟩, ⟨"Err", 25, 2, false, "", "", 16⟩, ⟨"Found", 4, 3, false, "", "", 24⟩, ⟨"Val", 9, 4, false, "", "", 32⟩, ⟨"Rev", 3, 5, false, "", "", 48⟩] q ∧ (x = y → q = true) :=
  ⟨_, feq_int (k := .i64) (bytes := 8) (zero := .int .i64 0) (sz := 1) (a := x.client) (b := y.client) rfl rfl rfl (feq_int (k := .i64) (bytes := 8) (zero := .int .i64 0) (sz := 1) (a := x.seq) (b := y.seq) rfl rfl rfl (feq_int (k := .i64) (bytes := 8) (zero := .int .i64 0) (sz := 1) (a := x.err) (b := y.err) rfl rfl rfl (feq_one (bytes := 1) (zero := .bool false) (sz := 1) rfl (u := .bool x.found) (v := .bool y.found) rfl rfl (eqIs_bool d x.found y.found) (feq_str (bytes := 16) (zero := .string ByteArray.empty) (sz := 1) (a := x.val) (b := y.val) rfl rfl rfl (feq_int (k := .i64) (bytes := 8) (zero := .int .i64 0) (sz := 1) (a := x.rev) (b := y.rev) rfl rfl rfl feq_nil))))), by rintro rfl; simp [dec_true]⟩
theorem ss_feq (x y : Ss) : ∃ q, FEq Tryz.prog 9999 x.cells y.cells [⟨"Client", 3, 0, false, "", "", 0⟩, ⟨"Seq", 3, 1, false, "", "", 8⟩, ⟨"Last", 40, 2, false, "", "", 16⟩] q ∧ (x = y → q = true) := by
  obtain ⟨q, hq, hq1⟩ := an_feqD 9997 x.last y.last
  refine ⟨_, feq_int (k := .i64) (bytes := 8) (zero := .int .i64 0) (sz := 1) (a := x.client) (b := y.client) rfl rfl rfl (feq_int (k := .i64) (bytes := 8) (zero := .int .i64 0) (sz := 1) (a := x.seq) (b := y.seq) rfl rfl rfl (feq_agg (bytes := 56) (zero := zAn) (sz := 6) (us := x.last.cells) (vs := y.last.cells) rfl rfl rfl hq feq_nil)), ?_⟩
  rintro rfl
  rw [hq1 rfl]
  simp [dec_true]
theorem refPSame_s {G : GH} {l m : List Pr} {sv tv : Value} (hs : Prs G sv l) (ht : Prs G tv m) : Con Tryz.prog 73 #[sv, tv] G [] (Sm (l = m) G) := by
  obtain ⟨A, c, rfl, hlc, hcm, hsome, hcp⟩ := rowOpen hs
  obtain ⟨A', c', rfl, hlc', hcm', hsome', hcp'⟩ := rowOpen ht
  simp only [maxLen] at hcm hcm'
  (refine v_enter Tryz.func73 rfl Tryz.ntmps73 rfl ?_; intro B _)
  by_cases hlen : l.length = m.length
  · repeat' (first | apply v_seq | apply v_region | apply v_nil | apply v_skip | apply v_block | (apply v_pure; (case hop => first | (apply p_move <;> rfl) | (apply p_ne <;> rfl) | (apply p_assign <;> rfl) | (apply p_lenSlice <;> rfl) | fail); (case hd => rfl)) | (apply v_cond; (case hc => rfl); all_goals (intro h; (try simp only [reduceCtorEq, zzz] at h); first | (exfalso; omega) | skip)) | fail)
    refine v_loop [5, 0, 1] (fun us G' μ' => G' = G ∧ μ' = [] ∧ ∃ k : Nat, k ≤ l.length ∧ us = [Value.int .i64 (k : Nat), .slice A l.length c, .slice A' m.length c']) (fun us => l.length - (headI us).toNat) rfl ⟨rfl, rfl, 0, by omega, rfl⟩ ?_
    rintro us G' _ ⟨rfl, rfl, k, hk, rfl⟩
    by_cases hlt : k < l.length
    · have e1 : ((k : Nat) : Int).toNat = k := by omega
      have hA := hsome (by omega)
      have hA' := hsome' (by omega)
      have hck := hcp k hlt
      have hck' := hcp' k (by omega)
      have hin : l = m → l[k] = m[k]'(by omega) := fun h => by subst h; rfl
      generalize l[k] = x at *
      generalize m[k]'(by omega) = y at *
      obtain ⟨q, hq, hq1⟩ := pr_feq x y
      have hop := fun σ ty t' a b hx hy => p_neStruct (P := Tryz.prog) (σ := σ) (ty := ty) (t := 144) (t' := t') (x := a) (y := b) hx hy hq
      repeat' (first | apply v_seq | apply v_region | apply v_nil | apply v_skip | apply v_block | (apply v_pure; (case hop => first | (apply p_move <;> rfl) | (apply p_lt <;> rfl) | (apply p_lenSlice <;> rfl) | fail); (case hd => rfl)) | (apply v_cond; (case hc => rfl); all_goals (intro h; (try simp only [reduceCtorEq, zzz] at h); first | (exfalso; omega) | skip)) | fail)
      refine d_start [] (by kernel_rfl) (by kernel_rfl) (by kernel_rfl) (by intro e he; exact he) ?_
      all_goals (apply dtk 0; (case hi => rfl); (case hop => (apply prd; apply p_move <;> rfl)); (case hq => kernel_rfl))
      all_goals (apply dtk 1; (case hi => rfl); (case hop => (apply prd; apply p_move <;> rfl)); (case hq => kernel_rfl))
      all_goals (apply dtk 2; (case hi => rfl); (case hop => (apply prd; apply p_indexAddrS; (case hx => rfl); (case hi => rfl); (case h0 => omega); (case h => omega); (case hA => assumption))); (case hq => kernel_rfl))
      all_goals (apply dtk 3; (case hi => rfl); (case hop => ((apply r_loadN; rfl; exact CellsAt.frozen hck; rfl))); (case hq => kernel_rfl))
      all_goals (apply dtk 4; (case hi => rfl); (case hop => (apply prd; apply p_move <;> rfl)); (case hq => kernel_rfl))
      all_goals (apply dtk 5; (case hi => rfl); (case hop => (apply prd; apply p_move <;> rfl)); (case hq => kernel_rfl))
      all_goals (apply dtk 6; (case hi => rfl); (case hop => (apply prd; apply p_indexAddrS; (case hx => rfl); (case hi => rfl); (case h0 => omega); (case h => omega); (case hA => assumption))); (case hq => kernel_rfl))
      all_goals (apply dtk 7; (case hi => rfl); (case hop => ((apply r_loadN; rfl; exact CellsAt.frozen hck'; rfl))); (case hq => kernel_rfl))
      all_goals (apply dtk 8; (case hi => rfl); (case hop => ((apply prd; apply hop; (case hx => rfl); (case hy => rfl)))); (case hq => kernel_rfl))
      all_goals (apply d_done; (case hr => kernel_rfl))
      cases q with
      | true =>
        repeat' (first | apply v_region | apply v_nil | apply v_skip | apply v_blk | (apply v_pure; (case hop => first | (apply p_move <;> rfl) | (apply p_assign <;> rfl) | (apply p_add; (case hx => rfl); (case hy => rfl); (case h => omega)) | fail); (case hd => rfl)) | (apply v_condF; (case hc => rfl)) | fail)
        exact v_again rfl ⟨rfl, rfl, k + 1, by omega, rfl⟩ (by simp [headI]; omega)
      | false =>
        repeat' (first | apply v_seq | apply v_region | apply v_nil | (apply v_pure; (case hop => (apply p_assign <;> rfl)); (case hd => rfl)) | (apply v_condT; (case hc => rfl)) | fail)
        refine v_ret [] (outsA1 rfl rfl) (by repeat (exact List.Sublist.refl _)) ?_
        exact ⟨rfl, rfl, _, rfl, fun h => absurd (hq1 (hin h)) (by simp)⟩
    · repeat' (first | apply v_seq | apply v_region | apply v_nil | (apply v_exit; (case hp => rfl)) | (apply v_pure; (case hop => first | (apply p_move <;> rfl) | (apply p_lt <;> rfl) | (apply p_assign <;> rfl) | (apply p_lenSlice <;> rfl) | fail); (case hd => rfl)) | (apply v_cond; (case hc => rfl); all_goals (intro h; (try simp only [reduceCtorEq, zzz] at h); first | (exfalso; omega) | skip)) | fail)
      refine v_ret [] (outsA1 rfl rfl) (by repeat (exact List.Sublist.refl _)) ?_
      exact ⟨rfl, rfl, _, rfl, fun _ => rfl⟩
  · repeat' (first | apply v_seq | apply v_region | apply v_nil | (apply v_pure; (case hop => first | (apply p_move <;> rfl) | (apply p_ne <;> rfl) | (apply p_assign <;> rfl) | (apply p_lenSlice <;> rfl) | fail); (case hd => rfl)) | (apply v_cond; (case hc => rfl); all_goals (intro h; (try simp only [reduceCtorEq, zzz] at h); first | (exfalso; omega) | skip)) | fail)
    all_goals
      (refine v_ret [] (outsA1 rfl rfl) (by repeat (exact List.Sublist.refl _)) ?_
       exact ⟨rfl, rfl, _, rfl, fun h => absurd (congrArg List.length h) hlen⟩)
theorem refSSame_s {G : GH} {l m : List Ss} {sv tv : Value} (hs : Sss G sv l) (ht : Sss G tv m) : Con Tryz.prog 74 #[sv, tv] G [] (Sm (l = m) G) := by
  obtain ⟨A, c, rfl, hlc, hcm, hsome, hcp⟩ := rowOpen hs
  obtain ⟨A', c', rfl, hlc', hcm', hsome', hcp'⟩ := rowOpen ht
  simp only [maxLen] at hcm hcm'
  (refine v_enter Tryz.func74 rfl Tryz.ntmps74 rfl ?_; intro B _)
  by_cases hlen : l.length = m.length
  · repeat' (first | apply v_seq | apply v_region | apply v_nil | apply v_skip | apply v_block | (apply v_pure; (case hop => first | (apply p_move <;> rfl) | (apply p_ne <;> rfl) | (apply p_assign <;> rfl) | (apply p_lenSlice <;> rfl) | fail); (case hd => rfl)) | (apply v_cond; (case hc => rfl); all_goals (intro h; (try simp only [reduceCtorEq, zzz] at h); first | (exfalso; omega) | skip)) | fail)
    refine v_loop [5, 0, 1] (fun us G' μ' => G' = G ∧ μ' = [] ∧ ∃ k : Nat, k ≤ l.length ∧ us = [Value.int .i64 (k : Nat), .slice A l.length c, .slice A' m.length c']) (fun us => l.length - (headI us).toNat) rfl ⟨rfl, rfl, 0, by omega, rfl⟩ ?_
    rintro us G' _ ⟨rfl, rfl, k, hk, rfl⟩
    by_cases hlt : k < l.length
    · have e1 : ((k : Nat) : Int).toNat = k := by omega
      have hA := hsome (by omega)
      have hA' := hsome' (by omega)
      have hck := hcp k hlt
      have hck' := hcp' k (by omega)
      have hin : l = m → l[k] = m[k]'(by omega) := fun h => by subst h; rfl
      generalize l[k] = x at *
      generalize m[k]'(by omega) = y at *
      obtain ⟨q, hq, hq1⟩ := ss_feq x y
      have hop := fun σ ty t' a b hx hy => p_neStruct (P := Tryz.prog) (σ := σ) (ty := ty) (t := 146) (t' := t') (x := a) (y := b) hx hy hq
      repeat' (first | apply v_seq | apply v_region | apply v_nil | apply v_skip | apply v_block | (apply v_pure; (case hop => first | (apply p_move <;> rfl) | (apply p_lt <;> rfl) | (apply p_lenSlice <;> rfl) | fail); (case hd => rfl)) | (apply v_cond; (case hc => rfl); all_goals (intro h; (try simp only [reduceCtorEq, zzz] at h); first | (exfalso; omega) | skip)) | fail)
      refine d_start [] (by kernel_rfl) (by kernel_rfl) (by kernel_rfl) (by intro e he; exact he) ?_
      all_goals (apply dtk 0; (case hi => rfl); (case hop => (apply prd; apply p_move <;> rfl)); (case hq => kernel_rfl))
      all_goals (apply dtk 1; (case hi => rfl); (case hop => (apply prd; apply p_move <;> rfl)); (case hq => kernel_rfl))
      all_goals (apply dtk 2; (case hi => rfl); (case hop => (apply prd; apply p_indexAddrS; (case hx => rfl); (case hi => rfl); (case h0 => omega); (case h => omega); (case hA => assumption))); (case hq => kernel_rfl))
      all_goals (apply dtk 3; (case hi => rfl); (case hop => ((apply r_loadN; rfl; exact CellsAt.frozen hck; rfl))); (case hq => kernel_rfl))
      all_goals (apply dtk 4; (case hi => rfl); (case hop => (apply prd; apply p_move <;> rfl)); (case hq => kernel_rfl))
      all_goals (apply dtk 5; (case hi => rfl); (case hop => (apply prd; apply p_move <;> rfl)); (case hq => kernel_rfl))
      all_goals (apply dtk 6; (case hi => rfl); (case hop => (apply prd; apply p_indexAddrS; (case hx => rfl); (case hi => rfl); (case h0 => omega); (case h => omega); (case hA => assumption))); (case hq => kernel_rfl))
      all_goals (apply dtk 7; (case hi => rfl); (case hop => ((apply r_loadN; rfl; exact CellsAt.frozen hck'; rfl))); (case hq => kernel_rfl))
      all_goals (apply dtk 8; (case hi => rfl); (case hop => ((apply prd; apply hop; (case hx => rfl); (case hy => rfl)))); (case hq => kernel_rfl))
      all_goals (apply d_done; (case hr => kernel_rfl))
      cases q with
      | true =>
        repeat' (first | apply v_region | apply v_nil | apply v_skip | apply v_blk | (apply v_pure; (case hop => first | (apply p_move <;> rfl) | (apply p_assign <;> rfl) | (apply p_add; (case hx => rfl); (case hy => rfl); (case h => omega)) | fail); (case hd => rfl)) | (apply v_condF; (case hc => rfl)) | fail)
        exact v_again rfl ⟨rfl, rfl, k + 1, by omega, rfl⟩ (by simp [headI]; omega)
      | false =>
        repeat' (first | apply v_seq | apply v_region | apply v_nil | (apply v_pure; (case hop => (apply p_assign <;> rfl)); (case hd => rfl)) | (apply v_condT; (case hc => rfl)) | fail)
        refine v_ret [] (outsA1 rfl rfl) (by repeat (exact List.Sublist.refl _)) ?_
        exact ⟨rfl, rfl, _, rfl, fun h => absurd (hq1 (hin h)) (by simp)⟩
    · repeat' (first | apply v_seq | apply v_region | apply v_nil | (apply v_exit; (case hp => rfl)) | (apply v_pure; (case hop => first | (apply p_move <;> rfl) | (apply p_lt <;> rfl) | (apply p_assign <;> rfl) | (apply p_lenSlice <;> rfl) | fail); (case hd => rfl)) | (apply v_cond; (case hc => rfl); all_goals (intro h; (try simp only [reduceCtorEq, zzz] at h); first | (exfalso; omega) | skip)) | fail)
      refine v_ret [] (outsA1 rfl rfl) (by repeat (exact List.Sublist.refl _)) ?_
      exact ⟨rfl, rfl, _, rfl, fun _ => rfl⟩
  · repeat' (first | apply v_seq | apply v_region | apply v_nil | (apply v_pure; (case hop => first | (apply p_move <;> rfl) | (apply p_ne <;> rfl) | (apply p_assign <;> rfl) | (apply p_lenSlice <;> rfl) | fail); (case hd => rfl)) | (apply v_cond; (case hc => rfl); all_goals (intro h; (try simp only [reduceCtorEq, zzz] at h); first | (exfalso; omega) | skip)) | fail)
    all_goals
      (refine v_ret [] (outsA1 rfl rfl) (by repeat (exact List.Sublist.refl _)) ?_
       exact ⟨rfl, rfl, _, rfl, fun h => absurd (congrArg List.length h) hlen⟩)
theorem refSame_s {G : GH} {s t : St} {v u : Value} (hs : StV G s v) (ht : StV G t u) : Con Tryz.prog 19 #[v, u] G [] (Sm (s = t) G) := by
  obtain ⟨A, c, A', c', rfl, hp, hss⟩ := id hs
  obtain ⟨B0, e, B', e', rfl, hp', hss'⟩ := id ht
  have q1 := refPSame_s hp hp'
  have q2 := refSSame_s hss hss'
  obtain ⟨schema, lp, ls⟩ := s
  obtain ⟨schema', lp', ls'⟩ := t
  simp only at *
  (refine v_enter Tryz.func19 rfl Tryz.ntmps19 rfl ?_; intro B _)
  by_cases hz : schema = schema'
  · subst hz
    repeat' (first | (apply v_box (d := 2) (zs := [.int .i64 schema, .slice A lp.length c, .slice A' ls.length c']); (case hx => rfl); (case hz => rfl); (case hd => rfl); intro b2) | (apply v_box (d := 3) (zs := [.int .i64 schema, .slice B0 lp'.length e, .slice B' ls'.length e']); (case hx => rfl); (case hz => rfl); (case hd => rfl); intro b3) | apply v_seq | apply v_region | apply v_nil | (apply v_take; (case hg => rfl)) | (apply v_pure; (case hop => first | (apply p_move <;> rfl) | (apply p_eqs <;> rfl) | (apply p_assign <;> rfl) | (apply p_fieldAddrB <;> rfl) | fail); (case hd => rfl)) | (apply v_read; (case hop => (apply r_load1; rfl; (apply Cell.own; (case h => (repeat (first | exact mhd _ | apply mtl))); rfl))); (case hd => rfl)) | fail)
    refine v_call (μ1 := []) rfl q1 (List.Perm.refl _) rfl ?_
    rintro _ G1 _ - ⟨hG1, rfl, b1, rfl, h1⟩
    subst hG1
    cases b1 with
    | false =>
      repeat' (first | apply v_nil | (apply v_pass; (case hg => rfl); (case hn => rfl); (case hd => rfl)) | (apply v_pure; (case hop => first | (apply p_move <;> rfl) | (apply p_assign <;> rfl) | (apply p_pickT <;> rfl) | (apply p_pickF <;> rfl) | fail); (case hd => rfl)) | fail)
      refine v_ret [] (outsA1 rfl rfl) (by repeat (exact List.nil_sublist _)) ?_
      exact ⟨rfl, rfl, _, rfl, fun h => by cases h; exact h1 rfl⟩
    | true =>
      repeat' (first | (apply v_take; (case hg => rfl)) | (apply v_pure; (case hop => first | (apply p_move <;> rfl) | (apply p_pickT <;> rfl) | (apply p_fieldAddrB <;> rfl) | fail); (case hd => rfl)) | (apply v_read; (case hop => (apply r_load1; rfl; (apply Cell.own; (case h => (repeat (first | exact mhd _ | apply mtl))); rfl))); (case hd => rfl)) | fail)
      refine v_call (μ1 := []) rfl q2 (List.Perm.refl _) rfl ?_
      rintro _ G1 _ - ⟨hG1, rfl, b4, rfl, h2⟩
      subst hG1
      repeat' (first | apply v_nil | (apply v_pure; (case hop => first | (apply p_assign <;> rfl) | (apply p_pickT <;> rfl) | fail); (case hd => rfl)) | fail)
      refine v_ret [] (outsA1 rfl rfl) (by repeat (exact List.nil_sublist _)) ?_
      exact ⟨rfl, rfl, _, rfl, fun h => by cases h; exact h2 rfl⟩
  · repeat' (first | (apply v_box (d := 2) (zs := [.int .i64 schema, .slice A lp.length c, .slice A' ls.length c']); (case hx => rfl); (case hz => rfl); (case hd => rfl); intro b2) | (apply v_box (d := 3) (zs := [.int .i64 schema', .slice B0 lp'.length e, .slice B' ls'.length e']); (case hx => rfl); (case hz => rfl); (case hd => rfl); intro b3) | apply v_seq | apply v_region | apply v_nil | (apply v_pass; (case hg => rfl); (case hn => rfl); (case hd => rfl)) | (apply v_pure; (case hop => first | (apply p_move <;> rfl) | (apply p_eq <;> rfl) | (apply p_assign <;> rfl) | (apply p_pickF <;> rfl) | (apply p_fieldAddrB <;> rfl) | fail); (case hd => rfl)) | (apply v_guardB; (case h1 => rfl); (case h2 => rfl); all_goals (intro h; (try simp only [reduceCtorEq, zzz] at h); first | (exfalso; omega) | skip)) | (apply v_read; (case hop => (apply r_load1; rfl; (apply Cell.own; (case h => (repeat (first | exact mhd _ | apply mtl))); rfl))); (case hd => rfl)) | fail)
    all_goals
      (refine v_ret [] (outsA1 rfl rfl) (by repeat (exact List.nil_sublist _)) ?_
       exact ⟨rfl, rfl, _, rfl, fun h => absurd (congrArg St.schema h) hz⟩)
theorem refPlace_s {G : GH} {l : List Pr} {sv : Value} (key : ByteArray) (hs : Prs G sv l) (hr : RiseW ksP l) (hz : Sized l) (hkz : key.size ≤ 200) : Con Tryz.prog 224 #[sv, .string key] G [] (Just (.int .i64 (if hitG ksP l (kn key) = true then (placeG ksP l (kn key) : Nat) else -1)) G) := by
  obtain ⟨A, c, rfl, hlc, hcm, hsome, hcp⟩ := rowOpen hs
  simp only [maxLen] at hcm
  have hrg := riseG_pw.2 hr
  apply Con.just
  (refine v_enter Tryz.func224 rfl Tryz.ntmps224 rfl ?_; intro B _)
  repeat' (first | apply v_seq | apply v_region | apply v_nil | apply v_block | (apply v_pure; (case hop => (apply p_assign <;> rfl)); (case hd => rfl)) | fail)
  refine v_loop [5, 0, 1] (fun us G' μ' => G' = G ∧ μ' = [] ∧ ∃ k : Nat, k ≤ l.length ∧ us = [Value.int .i64 (k : Nat), .slice A l.length c, .string key] ∧ ∀ i (h : i < l.length), i < k → l[i].key ≠ key) (fun us => l.length - (headI us).toNat) rfl ⟨rfl, rfl, 0, by omega, rfl, by omega⟩ ?_
  rintro us G' _ ⟨rfl, rfl, k, hk, rfl, hno⟩
  by_cases hlt : k < l.length
  · have e1 : ((k : Nat) : Int).toNat = k := by omega
    have hA := hsome (by omega)
    have hc := (hcp k hlt).cell (j := 0) rfl
    have hyes : (l[k]).key = key → hitG ksP l (kn key) = true ∧ placeG ksP l (kn key) = k := fun h => by
      have hp : placeG ksP l (kn key) = k := placeG_eq hk (fun m hm hmk => by have := hrg m k hlt hmk; rw [← h]; exact this) (fun m hm hkm => by
        by_cases e : m = k
        · subst e; rw [← h]; show ¬ kn _ < kn _; omega
        · have := hrg k m hm (by omega); rw [← h]; simp only [ksP] at this ⊢; omega)
      refine ⟨?_, hp⟩
      unfold hitG
      rw [dif_pos (by rw [hp]; exact hlt)]
      refine decide_eq_true ?_
      have : l[placeG ksP l (kn key)]'(by rw [hp]; exact hlt) = l[k] := by congr 1
      rw [this, ← h]
    have hnx : (l[k]).key ≠ key → ∀ i (h : i < l.length), i < k + 1 → l[i].key ≠ key := fun a2 i hi hik => by
      by_cases e : i = k
      · subst e; exact a2
      · exact hno i hi (by omega)
    generalize (l[k]).key = x at *
    by_cases hx : x = key
    · obtain ⟨h1, h2⟩ := hyes hx
      rw [h1, h2]
      repeat' (first | apply v_seq | apply v_region | apply v_nil | apply v_skip | apply v_block | (apply v_pure; (case hop => first | (apply p_move <;> rfl) | (apply p_lt <;> rfl) | (apply p_assign <;> rfl) | (apply p_lenSlice <;> rfl) | (apply p_fieldAddr <;> rfl) | (apply p_indexAddrS; (case hx => rfl); (case hi => rfl); (case h0 => omega); (case h => omega); (case hA => assumption)) | (apply p_eqS <;> rfl) | fail); (case hd => rfl)) | (apply v_cond; (case hc => rfl); all_goals (intro h; (try simp only [reduceCtorEq, zzz] at h); first | (exfalso; omega) | (exfalso; exact h (by with_reducible assumption)) | skip)) | (apply v_read; (case hop => (apply r_load1; rfl; exact Cell.frozen hc)); (case hd => rfl)) | fail)
      all_goals first
        | (exfalso; exact absurd hx (by assumption))
        | (refine v_ret [] (outsA1 rfl rfl) (by repeat (exact List.Sublist.refl _)) ?_
           exact ⟨rfl, rfl⟩)
    · repeat' (first | apply v_seq | apply v_region | apply v_nil | apply v_skip | apply v_block | apply v_blk | (apply v_pure; (case hop => first | (apply p_move <;> rfl) | (apply p_lt <;> rfl) | (apply p_assign <;> rfl) | (apply p_lenSlice <;> rfl) | (apply p_fieldAddr <;> rfl) | (apply p_add; (case hx => rfl); (case hy => rfl); (case h => omega)) | (apply p_indexAddrS; (case hx => rfl); (case hi => rfl); (case h0 => omega); (case h => omega); (case hA => assumption)) | (apply p_eqS <;> rfl) | fail); (case hd => rfl)) | (apply v_cond; (case hc => rfl); all_goals (intro h; (try simp only [reduceCtorEq, zzz] at h); first | (exfalso; omega) | (exfalso; revert h; rw [imp_false]; with_reducible assumption) | skip)) | (apply v_read; (case hop => (apply r_load1; rfl; exact Cell.frozen hc)); (case hd => rfl)) | fail)
      all_goals first
        | (exfalso; exact absurd (by assumption) hx)
        | (refine v_again rfl ⟨rfl, rfl, k + 1, by omega, rfl, hnx hx⟩ (by simp [headI]; omega))
  · have hh : hitG ksP l (kn key) = false := by
      cases hh : hitG ksP l (kn key) with
      | false => rfl
      | true =>
        obtain ⟨x, hx, e⟩ := (hit_iff hr).1 hh
        obtain ⟨i, hi, rfl⟩ := List.getElem_of_mem hx
        exact absurd ((kn_inj (hz _ hx).1 hkz).1 e) (hno i hi (by omega))
    rw [hh]
    repeat' (first | apply v_seq | apply v_region | apply v_nil | (apply v_exit; (case hp => rfl)) | (apply v_pure; (case hop => first | (apply p_move <;> rfl) | (apply p_lt <;> rfl) | (apply p_assign <;> rfl) | (apply p_lenSlice <;> rfl) | fail); (case hd => rfl)) | (apply v_cond; (case hc => rfl); all_goals (intro h; (try simp only [reduceCtorEq, zzz] at h); first | (exfalso; omega) | skip)) | fail)
    refine v_ret [] (outsA1 rfl rfl) (by repeat (exact List.Sublist.refl _)) ?_
    exact ⟨rfl, rfl⟩
section
variable {α : Type} {key : α → Int}
def wK (key : α → Int) (l : List α) (p : α) (k : Nat) (d : Bool) : List α := (l.take k).filter (fun x => decide (key x < key p)) ++ (if d = true then p :: (l.take k).filter (fun x => decide (key p < key x)) else [])
theorem wK_zero (l : List α) (p : α) : wK key l p 0 false = [] := by unfold wK; simp
theorem wK_less {l : List α} {p : α} {k : Nat} (hk : k < l.length) (h : key l[k] < key p) : wK key l p k false ++ [l[k]] = wK key l p (k + 1) false := by
  unfold wK
  rw [List.take_succ_eq_append_getElem hk, List.filter_append, List.filter_cons_of_pos (by simpa using h)]
  simp
theorem wK_more {l : List α} {p : α} {k : Nat} (hk : k < l.length) (h : key p < key l[k]) : wK key l p k true ++ [l[k]] = wK key l p (k + 1) true := by
  unfold wK
  rw [List.take_succ_eq_append_getElem hk, List.filter_append, List.filter_append, List.filter_cons_of_neg (by simp; omega), List.filter_cons_of_pos (by simpa using h)]
  simp
theorem wK_same {l : List α} {p : α} {k : Nat} (hk : k < l.length) (h : key l[k] = key p) : wK key l p k true = wK key l p (k + 1) true := by
  unfold wK
  rw [List.take_succ_eq_append_getElem hk, List.filter_append, List.filter_append, List.filter_cons_of_neg (by simp; omega), List.filter_cons_of_neg (by simp; omega)]
  simp
theorem wK_put {l : List α} {p : α} {k : Nat} (h : ∀ i (hi : i < l.length), i < k → key l[i] < key p) : wK key l p k false ++ [p] = wK key l p k true := by
  unfold wK
  have e : (l.take k).filter (fun x => decide (key p < key x)) = [] := List.filter_eq_nil_iff.2 fun x hx => by
    obtain ⟨i, hi, rfl⟩ := List.getElem_of_mem hx
    rw [List.length_take] at hi
    rw [List.getElem_take]
    have := h i (by omega) (by omega)
    simp; omega
  rw [e]; simp
theorem wK_end (l : List α) (p : α) : wK key l p l.length true = withG key l p := by unfold wK withG; rw [List.take_length, if_pos rfl]
theorem wK_len (l : List α) (p : α) (k : Nat) (d : Bool) : (wK key l p k d).length ≤ 2 * k + 1 := by
  unfold wK
  have h1 := List.length_filter_le (fun x => decide (key x < key p)) (l.take k)
  have h2 := List.length_filter_le (fun x => decide (key p < key x)) (l.take k)
  have h3 : (l.take k).length ≤ k := by rw [List.length_take]; omega
  rw [List.length_append]
  split
  · rw [List.length_cons]; omega
  · rw [List.length_nil]; omega
end
theorem GrP.snoc {v : Value} {l : List Pr} {a : Pr} {ν : OH} (h : Grow 144 3 v (l.length + 1) (rowC Pr.cells l ++ a.cells) ν) : GrP v (l ++ [a]) ν := by
  unfold GrP
  rw [List.length_append, List.length_singleton, rowC_append, rowC_cons, rowC_nil, List.append_nil]
  exact h
theorem GrS.snoc {v : Value} {l : List Ss} {a : Ss} {ν : OH} (h : Grow 146 8 v (l.length + 1) (rowC Ss.cells l ++ a.cells) ν) : GrS v (l ++ [a]) ν := by
  unfold GrS
  rw [List.length_append, List.length_singleton, rowC_append, rowC_cons, rowC_nil, List.append_nil]
  exact h
theorem refSWith_s {G : GH} {l : List Ss} {sv : Value} (a : An) (hs : Sss G sv l) (hr : RiseW ksS l) (hn : l.length ≤ 200) : Con Tryz.prog 157 #[sv, .agg a.cells.toArray] G [] (fun r G' μ' => GH.le G G' ∧ μ' = [] ∧ Sss G' r (withG ksS l (sesOf a))) := by
  obtain ⟨A, c, rfl, hlc, hcm, hsome, hcp⟩ := rowOpen hs
  simp only [maxLen] at hcm
  have hrg := riseG_pw.2 hr
  have hkp : ksS (sesOf a) = a.client := rfl
  generalize hpp : sesOf a = p at *
  obtain ⟨ac, aq, ae, af, av5, ar⟩ := a
  subst hpp
  (refine v_enter Tryz.func157 rfl Tryz.ntmps157 rfl ?_; intro B _)
  repeat' (first | (apply v_box (zs := An.cells ⟨ac, aq, ae, af, av5, ar⟩); (case hx => rfl); (case hz => rfl); (case hd => rfl); intro b3) | apply v_seq | apply v_region | apply v_nil | apply v_block | (apply v_pure; (case hop => (apply p_assign <;> rfl)); (case hd => rfl)) | fail)
  refine v_loop [7, 0, 5, 6, 3] (fun us G' μ' => G' = G ∧ ∃ (k : Nat) (d : Bool) (av : Value) (ν : OH), k ≤ l.length ∧ us = [Value.int .i64 (k : Nat), .slice A l.length c, av, .bool d, .pointer (some ⟨b3, 0, none⟩)] ∧ μ' = [(b3, .cells [.int .i64 ac, .int .i64 aq, .int .i64 ae, .bool af, .string av5, .int .i64 ar].toArray 40 (0, 0))] ++ ν ∧ GrS av (wK ksS l (sesOf ⟨ac, aq, ae, af, av5, ar⟩) k d) ν ∧ (d = false → ∀ i (hi : i < l.length), i < k → ksS l[i] < ksS (sesOf ⟨ac, aq, ae, af, av5, ar⟩)) ∧ (d = true → ∀ i (hi : i < l.length), k ≤ i → ksS (sesOf ⟨ac, aq, ae, af, av5, ar⟩) < ksS l[i])) (fun us => l.length - (headI us).toNat) rfl ⟨rfl, 0, false, .slice none 0 0, [], by omega, rfl, rfl, by rw [wK_zero]; exact Grow.nil _ _, fun _ i hi h => by omega, fun h => by cases h⟩ ?_
  rintro us G' _ ⟨hG', k, d, av, ν, hk, rfl, rfl, hga, hd0, hd1⟩
  subst hG'
  have hwl := wK_len (key := ksS) l (sesOf ⟨ac, aq, ae, af, av5, ar⟩) k d
  by_cases hlt : k < l.length
  · have e1 : ((k : Nat) : Int).toNat = k := by omega
    have hA := hsome (by omega)
    have hck := hcp k hlt
    have hup : ∀ i (hi : i < l.length), k + 1 ≤ i → ksS l[k] < ksS l[i] := fun i hi h => hrg k i hi (by omega)
    rcases Int.lt_trichotomy (ksS l[k]) (ksS (sesOf ⟨ac, aq, ae, af, av5, ar⟩)) with hlt1 | heq | hgt
    · have ew := wK_less (key := ksS) (l := l) (p := (sesOf ⟨ac, aq, ae, af, av5, ar⟩)) hlt hlt1
      have hd0' : ∀ i (hi : i < l.length), i < k + 1 → ksS l[i] < ksS (sesOf ⟨ac, aq, ae, af, av5, ar⟩) := fun i hi h => by
        by_cases e : i = k
        · subst e; exact hlt1
        · cases d with
          | false => exact hd0 rfl i hi (by omega)
          | true => have := hd1 rfl k hlt (Nat.le_refl _); omega
      cases d with
      | true => have := hd1 rfl k hlt (Nat.le_refl _); omega
      | false =>
        clear hup hd0 hd1
        generalize l[k] = x at *
        obtain ⟨xc, xs, ⟨lc, ls, le, lf, lv, lr⟩⟩ := x
        have hc0 := hck.cell (j := 0) rfl
        simp only [ksS, hkp] at hlt1
        repeat' (first | apply v_seq | apply v_region | apply v_nil | apply v_skip | apply v_block | (apply v_pure; (case hop => first | (apply p_move <;> rfl) | (apply p_lt <;> rfl) | (apply p_lenSlice <;> rfl) | fail); (case hd => rfl)) | (apply v_cond; (case hc => rfl); all_goals (intro h; (try simp only [reduceCtorEq, zzz] at h); first | (exfalso; omega) | skip)) | fail)
        refine d_start [(b3, .cells [.int .i64 ac, .int .i64 aq, .int .i64 ae, .bool af, .string av5, .int .i64 ar].toArray 40 (0, 0))] (by kernel_rfl) (by kernel_rfl) (by kernel_rfl) (by intro e he; (simp at he; simp [he]; done)) ?_
        all_goals (apply dtk 0; (case hi => rfl); (case hop => (apply prd; apply p_move <;> rfl)); (case hq => kernel_rfl))
        all_goals (apply dtk 1; (case hi => rfl); (case hop => (apply prd; apply p_not <;> rfl)); (case hq => kernel_rfl))
        all_goals (apply dtk 2; (case hi => rfl); (case hop => (apply prd; apply p_move <;> rfl)); (case hq => kernel_rfl))
        all_goals (try (apply d_guardB 3; (case hi => rfl); (case hgd => rfl); (case h1 => rfl); (case h2 => rfl); all_goals (intro h; (try simp only [reduceCtorEq, zzz] at h))))
        all_goals (apply dtg 3; (case hi => rfl); (case hg => rfl); (case hop => (apply prd; apply p_move <;> rfl)); (case hq => kernel_rfl))
        all_goals (try (apply d_guardB 4; (case hi => rfl); (case hgd => rfl); (case h1 => rfl); (case h2 => rfl); all_goals (intro h; (try simp only [reduceCtorEq, zzz] at h))))
        all_goals (apply dtg 4; (case hi => rfl); (case hg => rfl); (case hop => (apply prd; apply p_move <;> rfl)); (case hq => kernel_rfl))
        all_goals (try (apply d_guardB 5; (case hi => rfl); (case hgd => rfl); (case h1 => rfl); (case h2 => rfl); all_goals (intro h; (try simp only [reduceCtorEq, zzz] at h))))
        all_goals (apply dtg 5; (case hi => rfl); (case hg => rfl); (case hop => (apply prd; apply p_indexAddrS; (case hx => rfl); (case hi => rfl); (case h0 => omega); (case h => omega); (case hA => assumption))); (case hq => kernel_rfl))
        all_goals (try (apply d_guardB 6; (case hi => rfl); (case hgd => rfl); (case h1 => rfl); (case h2 => rfl); all_goals (intro h; (try simp only [reduceCtorEq, zzz] at h))))
        all_goals (apply dtg 6; (case hi => rfl); (case hg => rfl); (case hop => (apply prd; apply p_fieldAddr <;> rfl)); (case hq => kernel_rfl))
        all_goals (try (apply d_guardB 7; (case hi => rfl); (case hgd => rfl); (case h1 => rfl); (case h2 => rfl); all_goals (intro h; (try simp only [reduceCtorEq, zzz] at h))))
        all_goals (apply dtg 7; (case hi => rfl); (case hg => rfl); (case hop => ((apply r_load1; rfl; exact Cell.frozen hc0))); (case hq => kernel_rfl))
        all_goals (try (apply d_guardB 8; (case hi => rfl); (case hgd => rfl); (case h1 => rfl); (case h2 => rfl); all_goals (intro h; (try simp only [reduceCtorEq, zzz] at h))))
        all_goals (apply dtg 8; (case hi => rfl); (case hg => rfl); (case hop => (apply prd; apply p_fieldAddrB <;> rfl)); (case hq => kernel_rfl))
        all_goals (try (apply d_guardB 9; (case hi => rfl); (case hgd => rfl); (case h1 => rfl); (case h2 => rfl); all_goals (intro h; (try simp only [reduceCtorEq, zzz] at h))))
        all_goals (apply dtg 9; (case hi => rfl); (case hg => rfl); (case hop => (apply r_load1; rfl; (apply Cell.own; (case h => (repeat (exact mhd _))); rfl))); (case hq => kernel_rfl))
        all_goals (try (apply d_guardB 10; (case hi => rfl); (case hgd => rfl); (case h1 => rfl); (case h2 => rfl); all_goals (intro h; (try simp only [reduceCtorEq, zzz] at h))))
        all_goals (apply dtg 10; (case hi => rfl); (case hg => rfl); (case hop => (apply prd; apply p_ge <;> rfl)); (case hq => kernel_rfl))
        all_goals (apply dtk 11; (case hi => rfl); (case hop => (apply prd; apply p_pickT <;> rfl)); (case hq => kernel_rfl))
        all_goals (apply d_done; (case hr => kernel_rfl))
        repeat' (first | apply v_seq | apply v_skip | (apply v_cond; (case hc => rfl); all_goals (intro h; (try simp only [reduceCtorEq, zzz] at h); first | (exfalso; omega) | skip)) | fail)
        refine d_start [(b3, .cells [.int .i64 ac, .int .i64 aq, .int .i64 ae, .bool af, .string av5, .int .i64 ar].toArray 40 (0, 0))] (by kernel_rfl) (by kernel_rfl) (by kernel_rfl) (by intro e he; (simp at he; simp [he]; done)) ?_
        all_goals (apply dtk 0; (case hi => rfl); (case hop => (apply prd; apply p_move <;> rfl)); (case hq => kernel_rfl))
        all_goals (apply dtk 1; (case hi => rfl); (case hop => (apply prd; apply p_move <;> rfl)); (case hq => kernel_rfl))
        all_goals (apply dtk 2; (case hi => rfl); (case hop => (apply prd; apply p_indexAddrS; (case hx => rfl); (case hi => rfl); (case h0 => omega); (case h => omega); (case hA => assumption))); (case hq => kernel_rfl))
        all_goals (apply dtk 3; (case hi => rfl); (case hop => (apply prd; apply p_fieldAddr <;> rfl)); (case hq => kernel_rfl))
        all_goals (apply dtk 4; (case hi => rfl); (case hop => ((apply r_load1; rfl; exact Cell.frozen hc0))); (case hq => kernel_rfl))
        all_goals (apply dtk 5; (case hi => rfl); (case hop => (apply prd; apply p_fieldAddrB <;> rfl)); (case hq => kernel_rfl))
        all_goals (apply dtk 6; (case hi => rfl); (case hop => (apply r_load1; rfl; (apply Cell.own; (case h => (repeat (exact mhd _))); rfl))); (case hq => kernel_rfl))
        all_goals (apply dtk 7; (case hi => rfl); (case hop => (apply prd; apply p_ne <;> rfl)); (case hq => kernel_rfl))
        all_goals (apply d_done; (case hr => kernel_rfl))
        repeat' (first | apply v_region | (apply v_pure; (case hop => first | (apply p_move <;> rfl) | (apply p_indexAddrS; (case hx => rfl); (case hi => rfl); (case h0 => omega); (case h => omega); (case hA => assumption)) | fail); (case hd => rfl)) | (apply v_cond; (case hc => rfl); all_goals (intro h; (try simp only [reduceCtorEq, zzz] at h); first | (exfalso; omega) | skip)) | (apply v_read; (case hop => (apply r_loadN; rfl; exact CellsAt.frozen hck; rfl)); (case hd => rfl)) | (apply v_buildSlice; (case hz => rfl); (case hi => rfl); (case hv => (simp only [List.map_cons, List.map_nil]; repeat (first | with_reducible exact evs_nil | (apply evs_cons; (case h1 => rfl))))); (case hp => (apply pk_cons; (case hc => rfl); (case hs => rfl); (case h => (with_reducible exact pk_nil)); (case he => ((repeat (first | with_reducible exact ap_nil | apply ap_cons)); done)))); (case hb => rfl); (case hd => rfl); intro b) | fail)
        have hpm := List.perm_append_comm (l₁ := ([(b, .cells (Ss.cells ⟨xc, xs, ⟨lc, ls, le, lf, lv, lr⟩⟩).toArray 146 (0, 0)), (b3, .cells [.int .i64 ac, .int .i64 aq, .int .i64 ae, .bool af, .string av5, .int .i64 ar].toArray 40 (0, 0))] : OH)) (l₂ := ν)
        refine v_append (e := 146) (agg := true) (sz := 8) (bytes := 72) (zero := zS) rfl (by omega) rfl rfl hga hpm (m' := 1) (us := (Ss.cells ⟨xc, xs, ⟨lc, ls, le, lf, lv, lr⟩⟩)) (Src.own (e := 146) (List.Mem.head _) rfl) rfl (by omega) (by simp only [maxLen]; omega) rfl fun v' ν' hg' => ?_
        have hga' := GrS.snoc hg'
        refine v_perm (List.perm_append_comm (l₁ := ν')) ?_
        refine v_drop (ν := [(b3, .cells [.int .i64 ac, .int .i64 aq, .int .i64 ae, .bool af, .string av5, .int .i64 ar].toArray 40 (0, 0))] ++ ν') (List.Sublist.cons _ (List.Sublist.refl _)) ?_
        repeat' (first | apply v_region | apply v_nil | apply v_blk | (apply v_pure; (case hop => first | (apply p_move <;> rfl) | (apply p_assign <;> rfl) | (apply p_add; (case hx => rfl); (case hy => rfl); (case h => omega)) | fail); (case hd => rfl)) | fail)
        exact v_again rfl ⟨rfl, k + 1, false, _, _, by omega, rfl, rfl, by rw [← ew]; exact hga', fun _ => hd0', (fun h => by cases h)⟩ (by simp [headI]; omega)
    · have ew := wK_same (key := ksS) (l := l) (p := (sesOf ⟨ac, aq, ae, af, av5, ar⟩)) hlt heq
      have hd1' : ∀ i (hi : i < l.length), k + 1 ≤ i → ksS (sesOf ⟨ac, aq, ae, af, av5, ar⟩) < ksS l[i] := fun i hi h => by have := hup i hi h; omega
      cases d with
      | true => have := hd1 rfl k hlt (Nat.le_refl _); omega
      | false =>
        have ep := wK_put (hd0 rfl)
        clear hup hd0 hd1
        generalize l[k] = x at *
        obtain ⟨xc, xs, ⟨lc, ls, le, lf, lv, lr⟩⟩ := x
        have hc0 := hck.cell (j := 0) rfl
        simp only [ksS, hkp] at heq
        repeat' (first | apply v_seq | apply v_region | apply v_nil | apply v_skip | apply v_block | (apply v_pure; (case hop => first | (apply p_move <;> rfl) | (apply p_lt <;> rfl) | (apply p_lenSlice <;> rfl) | fail); (case hd => rfl)) | (apply v_cond; (case hc => rfl); all_goals (intro h; (try simp only [reduceCtorEq, zzz] at h); first | (exfalso; omega) | skip)) | fail)
        refine d_start [(b3, .cells [.int .i64 ac, .int .i64 aq, .int .i64 ae, .bool af, .string av5, .int .i64 ar].toArray 40 (0, 0))] (by kernel_rfl) (by kernel_rfl) (by kernel_rfl) (by intro e he; (simp at he; simp [he]; done)) ?_
        all_goals (apply dtk 0; (case hi => rfl); (case hop => (apply prd; apply p_move <;> rfl)); (case hq => kernel_rfl))
        all_goals (apply dtk 1; (case hi => rfl); (case hop => (apply prd; apply p_not <;> rfl)); (case hq => kernel_rfl))
        all_goals (apply dtk 2; (case hi => rfl); (case hop => (apply prd; apply p_move <;> rfl)); (case hq => kernel_rfl))
        all_goals (try (apply d_guardB 3; (case hi => rfl); (case hgd => rfl); (case h1 => rfl); (case h2 => rfl); all_goals (intro h; (try simp only [reduceCtorEq, zzz] at h))))
        all_goals (apply dtg 3; (case hi => rfl); (case hg => rfl); (case hop => (apply prd; apply p_move <;> rfl)); (case hq => kernel_rfl))
        all_goals (try (apply d_guardB 4; (case hi => rfl); (case hgd => rfl); (case h1 => rfl); (case h2 => rfl); all_goals (intro h; (try simp only [reduceCtorEq, zzz] at h))))
        all_goals (apply dtg 4; (case hi => rfl); (case hg => rfl); (case hop => (apply prd; apply p_move <;> rfl)); (case hq => kernel_rfl))
        all_goals (try (apply d_guardB 5; (case hi => rfl); (case hgd => rfl); (case h1 => rfl); (case h2 => rfl); all_goals (intro h; (try simp only [reduceCtorEq, zzz] at h))))
        all_goals (apply dtg 5; (case hi => rfl); (case hg => rfl); (case hop => (apply prd; apply p_indexAddrS; (case hx => rfl); (case hi => rfl); (case h0 => omega); (case h => omega); (case hA => assumption))); (case hq => kernel_rfl))
        all_goals (try (apply d_guardB 6; (case hi => rfl); (case hgd => rfl); (case h1 => rfl); (case h2 => rfl); all_goals (intro h; (try simp only [reduceCtorEq, zzz] at h))))
        all_goals (apply dtg 6; (case hi => rfl); (case hg => rfl); (case hop => (apply prd; apply p_fieldAddr <;> rfl)); (case hq => kernel_rfl))
        all_goals (try (apply d_guardB 7; (case hi => rfl); (case hgd => rfl); (case h1 => rfl); (case h2 => rfl); all_goals (intro h; (try simp only [reduceCtorEq, zzz] at h))))
        all_goals (apply dtg 7; (case hi => rfl); (case hg => rfl); (case hop => ((apply r_load1; rfl; exact Cell.frozen hc0))); (case hq => kernel_rfl))
        all_goals (try (apply d_guardB 8; (case hi => rfl); (case hgd => rfl); (case h1 => rfl); (case h2 => rfl); all_goals (intro h; (try simp only [reduceCtorEq, zzz] at h))))
        all_goals (apply dtg 8; (case hi => rfl); (case hg => rfl); (case hop => (apply prd; apply p_fieldAddrB <;> rfl)); (case hq => kernel_rfl))
        all_goals (try (apply d_guardB 9; (case hi => rfl); (case hgd => rfl); (case h1 => rfl); (case h2 => rfl); all_goals (intro h; (try simp only [reduceCtorEq, zzz] at h))))
        all_goals (apply dtg 9; (case hi => rfl); (case hg => rfl); (case hop => (apply r_load1; rfl; (apply Cell.own; (case h => (repeat (exact mhd _))); rfl))); (case hq => kernel_rfl))
        all_goals (try (apply d_guardB 10; (case hi => rfl); (case hgd => rfl); (case h1 => rfl); (case h2 => rfl); all_goals (intro h; (try simp only [reduceCtorEq, zzz] at h))))
        all_goals (apply dtg 10; (case hi => rfl); (case hg => rfl); (case hop => (apply prd; apply p_ge <;> rfl)); (case hq => kernel_rfl))
        all_goals (apply dtk 11; (case hi => rfl); (case hop => (apply prd; apply p_pickT <;> rfl)); (case hq => kernel_rfl))
        all_goals (apply d_done; (case hr => kernel_rfl))
        repeat' (first | (apply v_read; (case hop => (apply r_loadNo; (case hx => rfl); (case h => repeat (exact mhd _)); (case hd => rfl); (case hn => rfl))); (case hd => rfl)) | apply v_seq | apply v_region | (apply v_pure; (case hop => first | (apply p_move <;> rfl) | (apply p_fieldAddrB <;> rfl) | (apply p_build; (case hz => rfl); (case hv => (simp only [List.map_cons, List.map_nil]; repeat (first | with_reducible exact evs_nil | (apply evs_cons; (case h1 => rfl))))); (case hb => (apply bldL; repeat (first | exact bld_nil | (apply bld_cons; (case hpf => rfl); (case hc => rfl); (case hs => rfl); (case hl => rfl); (case ho => (first | ((repeat (first | with_reducible exact ov_nil | apply ov_cons)); done) | rfl))))))) | fail); (case hd => rfl)) | (apply v_cond; (case hc => rfl); all_goals (intro h; (try simp only [reduceCtorEq, zzz] at h); first | (exfalso; omega) | skip)) | (apply v_read; (case hop => (apply r_load1; rfl; (apply Cell.own; (case h => (repeat (exact mhd _))); rfl))); (case hd => rfl)) | (apply v_buildSlice; (case hz => rfl); (case hi => rfl); (case hv => (simp only [List.map_cons, List.map_nil]; repeat (first | with_reducible exact evs_nil | (apply evs_cons; (case h1 => rfl))))); (case hp => (apply pk_cons; (case hc => rfl); (case hs => rfl); (case h => (with_reducible exact pk_nil)); (case he => (rfl)))); (case hb => rfl); (case hd => rfl); intro b) | fail)
        have hpm := List.perm_append_comm (l₁ := ([(b, .cells (sesOf ⟨ac, aq, ae, af, av5, ar⟩).cells.toArray 146 (0, 0)), (b3, .cells [.int .i64 ac, .int .i64 aq, .int .i64 ae, .bool af, .string av5, .int .i64 ar].toArray 40 (0, 0))] : OH)) (l₂ := ν)
        refine v_append (e := 146) (agg := true) (sz := 8) (bytes := 72) (zero := zS) rfl (by omega) rfl rfl hga hpm (m' := 1) (us := (sesOf ⟨ac, aq, ae, af, av5, ar⟩).cells) (Src.own (e := 146) (List.Mem.head _) rfl) rfl (by omega) (by simp only [maxLen]; omega) rfl fun v' ν' hg' => ?_
        have hga' := GrS.snoc hg'
        refine v_perm (List.perm_append_comm (l₁ := ν')) ?_
        refine v_drop (ν := [(b3, .cells [.int .i64 ac, .int .i64 aq, .int .i64 ae, .bool af, .string av5, .int .i64 ar].toArray 40 (0, 0))] ++ ν') (List.Sublist.cons _ (List.Sublist.refl _)) ?_
        repeat' (first | apply v_seq | apply v_region | apply v_nil | (apply v_pure; (case hop => (apply p_assign <;> rfl)); (case hd => rfl)) | fail)
        refine d_start [(b3, .cells [.int .i64 ac, .int .i64 aq, .int .i64 ae, .bool af, .string av5, .int .i64 ar].toArray 40 (0, 0))] (by kernel_rfl) (by kernel_rfl) (by kernel_rfl) (by intro e he; (simp at he; simp [he]; done)) ?_
        all_goals (apply dtk 0; (case hi => rfl); (case hop => (apply prd; apply p_move <;> rfl)); (case hq => kernel_rfl))
        all_goals (apply dtk 1; (case hi => rfl); (case hop => (apply prd; apply p_move <;> rfl)); (case hq => kernel_rfl))
        all_goals (apply dtk 2; (case hi => rfl); (case hop => (apply prd; apply p_indexAddrS; (case hx => rfl); (case hi => rfl); (case h0 => omega); (case h => omega); (case hA => assumption))); (case hq => kernel_rfl))
        all_goals (apply dtk 3; (case hi => rfl); (case hop => (apply prd; apply p_fieldAddr <;> rfl)); (case hq => kernel_rfl))
        all_goals (apply dtk 4; (case hi => rfl); (case hop => ((apply r_load1; rfl; exact Cell.frozen hc0))); (case hq => kernel_rfl))
        all_goals (apply dtk 5; (case hi => rfl); (case hop => (apply prd; apply p_fieldAddrB <;> rfl)); (case hq => kernel_rfl))
        all_goals (apply dtk 6; (case hi => rfl); (case hop => (apply r_load1; rfl; (apply Cell.own; (case h => (repeat (exact mhd _))); rfl))); (case hq => kernel_rfl))
        all_goals (apply dtk 7; (case hi => rfl); (case hop => (apply prd; apply p_ne <;> rfl)); (case hq => kernel_rfl))
        all_goals (apply d_done; (case hr => kernel_rfl))
        repeat' (first | apply v_region | apply v_nil | apply v_skip | apply v_blk | (apply v_pure; (case hop => first | (apply p_move <;> rfl) | (apply p_assign <;> rfl) | (apply p_add; (case hx => rfl); (case hy => rfl); (case h => omega)) | fail); (case hd => rfl)) | (apply v_cond; (case hc => rfl); all_goals (intro h; (try simp only [reduceCtorEq, zzz] at h); first | (exfalso; omega) | skip)) | fail)
        exact v_again rfl ⟨rfl, k + 1, true, _, _, by omega, rfl, rfl, by rw [← ew, ← ep]; exact hga', (fun h => by cases h), fun _ => hd1'⟩ (by simp [headI]; omega)
    · have ew := wK_more (key := ksS) (l := l) (p := (sesOf ⟨ac, aq, ae, af, av5, ar⟩)) hlt hgt
      have hd1' : ∀ i (hi : i < l.length), k + 1 ≤ i → ksS (sesOf ⟨ac, aq, ae, af, av5, ar⟩) < ksS l[i] := fun i hi h => by have := hup i hi h; omega
      cases d with
      | true =>
        clear hup hd0 hd1
        generalize l[k] = x at *
        obtain ⟨xc, xs, ⟨lc, ls, le, lf, lv, lr⟩⟩ := x
        have hc0 := hck.cell (j := 0) rfl
        simp only [ksS, hkp] at hgt
        repeat' (first | apply v_seq | apply v_region | apply v_nil | apply v_skip | apply v_block | (apply v_pure; (case hop => first | (apply p_move <;> rfl) | (apply p_lt <;> rfl) | (apply p_lenSlice <;> rfl) | fail); (case hd => rfl)) | (apply v_cond; (case hc => rfl); all_goals (intro h; (try simp only [reduceCtorEq, zzz] at h); first | (exfalso; omega) | skip)) | fail)
        refine d_start [(b3, .cells [.int .i64 ac, .int .i64 aq, .int .i64 ae, .bool af, .string av5, .int .i64 ar].toArray 40 (0, 0))] (by kernel_rfl) (by kernel_rfl) (by kernel_rfl) (by intro e he; (simp at he; simp [he]; done)) ?_
        all_goals (apply dtk 0; (case hi => rfl); (case hop => (apply prd; apply p_move <;> rfl)); (case hq => kernel_rfl))
        all_goals (apply dtk 1; (case hi => rfl); (case hop => (apply prd; apply p_not <;> rfl)); (case hq => kernel_rfl))
        all_goals (apply dtk 2; (case hi => rfl); (case hop => (apply prd; apply p_move <;> rfl)); (case hq => kernel_rfl))
        all_goals (try (apply d_guardB 3; (case hi => rfl); (case hgd => rfl); (case h1 => rfl); (case h2 => rfl); all_goals (intro h; (try simp only [reduceCtorEq, zzz] at h))))
        all_goals (apply dpa 3; (case hi => rfl); (case hg => rfl); (case hn => rfl); (case hq => kernel_rfl))
        all_goals (try (apply d_guardB 4; (case hi => rfl); (case hgd => rfl); (case h1 => rfl); (case h2 => rfl); all_goals (intro h; (try simp only [reduceCtorEq, zzz] at h))))
        all_goals (apply dpa 4; (case hi => rfl); (case hg => rfl); (case hn => rfl); (case hq => kernel_rfl))
        all_goals (try (apply d_guardB 5; (case hi => rfl); (case hgd => rfl); (case h1 => rfl); (case h2 => rfl); all_goals (intro h; (try simp only [reduceCtorEq, zzz] at h))))
        all_goals (apply dpa 5; (case hi => rfl); (case hg => rfl); (case hn => rfl); (case hq => kernel_rfl))
        all_goals (try (apply d_guardB 6; (case hi => rfl); (case hgd => rfl); (case h1 => rfl); (case h2 => rfl); all_goals (intro h; (try simp only [reduceCtorEq, zzz] at h))))
        all_goals (apply dpa 6; (case hi => rfl); (case hg => rfl); (case hn => rfl); (case hq => kernel_rfl))
        all_goals (try (apply d_guardB 7; (case hi => rfl); (case hgd => rfl); (case h1 => rfl); (case h2 => rfl); all_goals (intro h; (try simp only [reduceCtorEq, zzz] at h))))
        all_goals (apply dpa 7; (case hi => rfl); (case hg => rfl); (case hn => rfl); (case hq => kernel_rfl))
        all_goals (try (apply d_guardB 8; (case hi => rfl); (case hgd => rfl); (case h1 => rfl); (case h2 => rfl); all_goals (intro h; (try simp only [reduceCtorEq, zzz] at h))))
        all_goals (apply dpa 8; (case hi => rfl); (case hg => rfl); (case hn => rfl); (case hq => kernel_rfl))
        all_goals (try (apply d_guardB 9; (case hi => rfl); (case hgd => rfl); (case h1 => rfl); (case h2 => rfl); all_goals (intro h; (try simp only [reduceCtorEq, zzz] at h))))
        all_goals (apply dpa 9; (case hi => rfl); (case hg => rfl); (case hn => rfl); (case hq => kernel_rfl))
        all_goals (try (apply d_guardB 10; (case hi => rfl); (case hgd => rfl); (case h1 => rfl); (case h2 => rfl); all_goals (intro h; (try simp only [reduceCtorEq, zzz] at h))))
        all_goals (apply dpa 10; (case hi => rfl); (case hg => rfl); (case hn => rfl); (case hq => kernel_rfl))
        all_goals (apply dtk 11; (case hi => rfl); (case hop => (apply prd; apply p_pickF <;> rfl)); (case hq => kernel_rfl))
        all_goals (apply d_done; (case hr => kernel_rfl))
        repeat' (first | apply v_seq | apply v_skip | (apply v_condF; (case hc => rfl)) | fail)
        refine d_start [(b3, .cells [.int .i64 ac, .int .i64 aq, .int .i64 ae, .bool af, .string av5, .int .i64 ar].toArray 40 (0, 0))] (by kernel_rfl) (by kernel_rfl) (by kernel_rfl) (by intro e he; (simp at he; simp [he]; done)) ?_
        all_goals (apply dtk 0; (case hi => rfl); (case hop => (apply prd; apply p_move <;> rfl)); (case hq => kernel_rfl))
        all_goals (apply dtk 1; (case hi => rfl); (case hop => (apply prd; apply p_move <;> rfl)); (case hq => kernel_rfl))
        all_goals (apply dtk 2; (case hi => rfl); (case hop => (apply prd; apply p_indexAddrS; (case hx => rfl); (case hi => rfl); (case h0 => omega); (case h => omega); (case hA => assumption))); (case hq => kernel_rfl))
        all_goals (apply dtk 3; (case hi => rfl); (case hop => (apply prd; apply p_fieldAddr <;> rfl)); (case hq => kernel_rfl))
        all_goals (apply dtk 4; (case hi => rfl); (case hop => ((apply r_load1; rfl; exact Cell.frozen hc0))); (case hq => kernel_rfl))
        all_goals (apply dtk 5; (case hi => rfl); (case hop => (apply prd; apply p_fieldAddrB <;> rfl)); (case hq => kernel_rfl))
        all_goals (apply dtk 6; (case hi => rfl); (case hop => (apply r_load1; rfl; (apply Cell.own; (case h => (repeat (exact mhd _))); rfl))); (case hq => kernel_rfl))
        all_goals (apply dtk 7; (case hi => rfl); (case hop => (apply prd; apply p_ne <;> rfl)); (case hq => kernel_rfl))
        all_goals (apply d_done; (case hr => kernel_rfl))
        repeat' (first | apply v_region | (apply v_pure; (case hop => first | (apply p_move <;> rfl) | (apply p_indexAddrS; (case hx => rfl); (case hi => rfl); (case h0 => omega); (case h => omega); (case hA => assumption)) | fail); (case hd => rfl)) | (apply v_cond; (case hc => rfl); all_goals (intro h; (try simp only [reduceCtorEq, zzz] at h); first | (exfalso; omega) | skip)) | (apply v_read; (case hop => (apply r_loadN; rfl; exact CellsAt.frozen hck; rfl)); (case hd => rfl)) | (apply v_buildSlice; (case hz => rfl); (case hi => rfl); (case hv => (simp only [List.map_cons, List.map_nil]; repeat (first | with_reducible exact evs_nil | (apply evs_cons; (case h1 => rfl))))); (case hp => (apply pk_cons; (case hc => rfl); (case hs => rfl); (case h => (with_reducible exact pk_nil)); (case he => ((repeat (first | with_reducible exact ap_nil | apply ap_cons)); done)))); (case hb => rfl); (case hd => rfl); intro b) | fail)
        have hpm := List.perm_append_comm (l₁ := ([(b, .cells (Ss.cells ⟨xc, xs, ⟨lc, ls, le, lf, lv, lr⟩⟩).toArray 146 (0, 0)), (b3, .cells [.int .i64 ac, .int .i64 aq, .int .i64 ae, .bool af, .string av5, .int .i64 ar].toArray 40 (0, 0))] : OH)) (l₂ := ν)
        refine v_append (e := 146) (agg := true) (sz := 8) (bytes := 72) (zero := zS) rfl (by omega) rfl rfl hga hpm (m' := 1) (us := (Ss.cells ⟨xc, xs, ⟨lc, ls, le, lf, lv, lr⟩⟩)) (Src.own (e := 146) (List.Mem.head _) rfl) rfl (by omega) (by simp only [maxLen]; omega) rfl fun v' ν' hg' => ?_
        have hga' := GrS.snoc hg'
        refine v_perm (List.perm_append_comm (l₁ := ν')) ?_
        refine v_drop (ν := [(b3, .cells [.int .i64 ac, .int .i64 aq, .int .i64 ae, .bool af, .string av5, .int .i64 ar].toArray 40 (0, 0))] ++ ν') (List.Sublist.cons _ (List.Sublist.refl _)) ?_
        repeat' (first | apply v_region | apply v_nil | apply v_blk | (apply v_pure; (case hop => first | (apply p_move <;> rfl) | (apply p_assign <;> rfl) | (apply p_add; (case hx => rfl); (case hy => rfl); (case h => omega)) | fail); (case hd => rfl)) | fail)
        exact v_again rfl ⟨rfl, k + 1, true, _, _, by omega, rfl, rfl, by rw [← ew]; exact hga', (fun h => by cases h), fun _ => hd1'⟩ (by simp [headI]; omega)
      | false =>
        have ep := wK_put (hd0 rfl)
        clear hup hd0 hd1
        generalize l[k] = x at *
        obtain ⟨xc, xs, ⟨lc, ls, le, lf, lv, lr⟩⟩ := x
        have hc0 := hck.cell (j := 0) rfl
        simp only [ksS, hkp] at hgt
        repeat' (first | apply v_seq | apply v_region | apply v_nil | apply v_skip | apply v_block | (apply v_pure; (case hop => first | (apply p_move <;> rfl) | (apply p_lt <;> rfl) | (apply p_lenSlice <;> rfl) | fail); (case hd => rfl)) | (apply v_cond; (case hc => rfl); all_goals (intro h; (try simp only [reduceCtorEq, zzz] at h); first | (exfalso; omega) | skip)) | fail)
        refine d_start [(b3, .cells [.int .i64 ac, .int .i64 aq, .int .i64 ae, .bool af, .string av5, .int .i64 ar].toArray 40 (0, 0))] (by kernel_rfl) (by kernel_rfl) (by kernel_rfl) (by intro e he; (simp at he; simp [he]; done)) ?_
        all_goals (apply dtk 0; (case hi => rfl); (case hop => (apply prd; apply p_move <;> rfl)); (case hq => kernel_rfl))
        all_goals (apply dtk 1; (case hi => rfl); (case hop => (apply prd; apply p_not <;> rfl)); (case hq => kernel_rfl))
        all_goals (apply dtk 2; (case hi => rfl); (case hop => (apply prd; apply p_move <;> rfl)); (case hq => kernel_rfl))
        all_goals (try (apply d_guardB 3; (case hi => rfl); (case hgd => rfl); (case h1 => rfl); (case h2 => rfl); all_goals (intro h; (try simp only [reduceCtorEq, zzz] at h))))
        all_goals (apply dtg 3; (case hi => rfl); (case hg => rfl); (case hop => (apply prd; apply p_move <;> rfl)); (case hq => kernel_rfl))
        all_goals (try (apply d_guardB 4; (case hi => rfl); (case hgd => rfl); (case h1 => rfl); (case h2 => rfl); all_goals (intro h; (try simp only [reduceCtorEq, zzz] at h))))
        all_goals (apply dtg 4; (case hi => rfl); (case hg => rfl); (case hop => (apply prd; apply p_move <;> rfl)); (case hq => kernel_rfl))
        all_goals (try (apply d_guardB 5; (case hi => rfl); (case hgd => rfl); (case h1 => rfl); (case h2 => rfl); all_goals (intro h; (try simp only [reduceCtorEq, zzz] at h))))
        all_goals (apply dtg 5; (case hi => rfl); (case hg => rfl); (case hop => (apply prd; apply p_indexAddrS; (case hx => rfl); (case hi => rfl); (case h0 => omega); (case h => omega); (case hA => assumption))); (case hq => kernel_rfl))
        all_goals (try (apply d_guardB 6; (case hi => rfl); (case hgd => rfl); (case h1 => rfl); (case h2 => rfl); all_goals (intro h; (try simp only [reduceCtorEq, zzz] at h))))
        all_goals (apply dtg 6; (case hi => rfl); (case hg => rfl); (case hop => (apply prd; apply p_fieldAddr <;> rfl)); (case hq => kernel_rfl))
        all_goals (try (apply d_guardB 7; (case hi => rfl); (case hgd => rfl); (case h1 => rfl); (case h2 => rfl); all_goals (intro h; (try simp only [reduceCtorEq, zzz] at h))))
        all_goals (apply dtg 7; (case hi => rfl); (case hg => rfl); (case hop => ((apply r_load1; rfl; exact Cell.frozen hc0))); (case hq => kernel_rfl))
        all_goals (try (apply d_guardB 8; (case hi => rfl); (case hgd => rfl); (case h1 => rfl); (case h2 => rfl); all_goals (intro h; (try simp only [reduceCtorEq, zzz] at h))))
        all_goals (apply dtg 8; (case hi => rfl); (case hg => rfl); (case hop => (apply prd; apply p_fieldAddrB <;> rfl)); (case hq => kernel_rfl))
        all_goals (try (apply d_guardB 9; (case hi => rfl); (case hgd => rfl); (case h1 => rfl); (case h2 => rfl); all_goals (intro h; (try simp only [reduceCtorEq, zzz] at h))))
        all_goals (apply dtg 9; (case hi => rfl); (case hg => rfl); (case hop => (apply r_load1; rfl; (apply Cell.own; (case h => (repeat (exact mhd _))); rfl))); (case hq => kernel_rfl))
        all_goals (try (apply d_guardB 10; (case hi => rfl); (case hgd => rfl); (case h1 => rfl); (case h2 => rfl); all_goals (intro h; (try simp only [reduceCtorEq, zzz] at h))))
        all_goals (apply dtg 10; (case hi => rfl); (case hg => rfl); (case hop => (apply prd; apply p_ge <;> rfl)); (case hq => kernel_rfl))
        all_goals (apply dtk 11; (case hi => rfl); (case hop => (apply prd; apply p_pickT <;> rfl)); (case hq => kernel_rfl))
        all_goals (apply d_done; (case hr => kernel_rfl))
        repeat' (first | (apply v_read; (case hop => (apply r_loadNo; (case hx => rfl); (case h => repeat (exact mhd _)); (case hd => rfl); (case hn => rfl))); (case hd => rfl)) | apply v_seq | apply v_region | (apply v_pure; (case hop => first | (apply p_move <;> rfl) | (apply p_fieldAddrB <;> rfl) | (apply p_build; (case hz => rfl); (case hv => (simp only [List.map_cons, List.map_nil]; repeat (first | with_reducible exact evs_nil | (apply evs_cons; (case h1 => rfl))))); (case hb => (apply bldL; repeat (first | exact bld_nil | (apply bld_cons; (case hpf => rfl); (case hc => rfl); (case hs => rfl); (case hl => rfl); (case ho => (first | ((repeat (first | with_reducible exact ov_nil | apply ov_cons)); done) | rfl))))))) | fail); (case hd => rfl)) | (apply v_cond; (case hc => rfl); all_goals (intro h; (try simp only [reduceCtorEq, zzz] at h); first | (exfalso; omega) | skip)) | (apply v_read; (case hop => (apply r_load1; rfl; (apply Cell.own; (case h => (repeat (exact mhd _))); rfl))); (case hd => rfl)) | (apply v_buildSlice; (case hz => rfl); (case hi => rfl); (case hv => (simp only [List.map_cons, List.map_nil]; repeat (first | with_reducible exact evs_nil | (apply evs_cons; (case h1 => rfl))))); (case hp => (apply pk_cons; (case hc => rfl); (case hs => rfl); (case h => (with_reducible exact pk_nil)); (case he => (rfl)))); (case hb => rfl); (case hd => rfl); intro b) | fail)
        have hpm := List.perm_append_comm (l₁ := ([(b, .cells (sesOf ⟨ac, aq, ae, af, av5, ar⟩).cells.toArray 146 (0, 0)), (b3, .cells [.int .i64 ac, .int .i64 aq, .int .i64 ae, .bool af, .string av5, .int .i64 ar].toArray 40 (0, 0))] : OH)) (l₂ := ν)
        refine v_append (e := 146) (agg := true) (sz := 8) (bytes := 72) (zero := zS) rfl (by omega) rfl rfl hga hpm (m' := 1) (us := (sesOf ⟨ac, aq, ae, af, av5, ar⟩).cells) (Src.own (e := 146) (List.Mem.head _) rfl) rfl (by omega) (by simp only [maxLen]; omega) rfl fun v' ν' hg' => ?_
        have hga' := GrS.snoc hg'
        refine v_perm (List.perm_append_comm (l₁ := ν')) ?_
        refine v_drop (ν := [(b3, .cells [.int .i64 ac, .int .i64 aq, .int .i64 ae, .bool af, .string av5, .int .i64 ar].toArray 40 (0, 0))] ++ ν') (List.Sublist.cons _ (List.Sublist.refl _)) ?_
        repeat' (first | apply v_seq | apply v_region | apply v_nil | (apply v_pure; (case hop => (apply p_assign <;> rfl)); (case hd => rfl)) | fail)
        refine d_start [(b3, .cells [.int .i64 ac, .int .i64 aq, .int .i64 ae, .bool af, .string av5, .int .i64 ar].toArray 40 (0, 0))] (by kernel_rfl) (by kernel_rfl) (by kernel_rfl) (by intro e he; (simp at he; simp [he]; done)) ?_
        all_goals (apply dtk 0; (case hi => rfl); (case hop => (apply prd; apply p_move <;> rfl)); (case hq => kernel_rfl))
        all_goals (apply dtk 1; (case hi => rfl); (case hop => (apply prd; apply p_move <;> rfl)); (case hq => kernel_rfl))
        all_goals (apply dtk 2; (case hi => rfl); (case hop => (apply prd; apply p_indexAddrS; (case hx => rfl); (case hi => rfl); (case h0 => omega); (case h => omega); (case hA => assumption))); (case hq => kernel_rfl))
        all_goals (apply dtk 3; (case hi => rfl); (case hop => (apply prd; apply p_fieldAddr <;> rfl)); (case hq => kernel_rfl))
        all_goals (apply dtk 4; (case hi => rfl); (case hop => ((apply r_load1; rfl; exact Cell.frozen hc0))); (case hq => kernel_rfl))
        all_goals (apply dtk 5; (case hi => rfl); (case hop => (apply prd; apply p_fieldAddrB <;> rfl)); (case hq => kernel_rfl))
        all_goals (apply dtk 6; (case hi => rfl); (case hop => (apply r_load1; rfl; (apply Cell.own; (case h => (repeat (exact mhd _))); rfl))); (case hq => kernel_rfl))
        all_goals (apply dtk 7; (case hi => rfl); (case hop => (apply prd; apply p_ne <;> rfl)); (case hq => kernel_rfl))
        all_goals (apply d_done; (case hr => kernel_rfl))
        repeat' (first | apply v_region | (apply v_pure; (case hop => first | (apply p_move <;> rfl) | (apply p_indexAddrS; (case hx => rfl); (case hi => rfl); (case h0 => omega); (case h => omega); (case hA => assumption)) | fail); (case hd => rfl)) | (apply v_cond; (case hc => rfl); all_goals (intro h; (try simp only [reduceCtorEq, zzz] at h); first | (exfalso; omega) | skip)) | (apply v_read; (case hop => (apply r_loadN; rfl; exact CellsAt.frozen hck; rfl)); (case hd => rfl)) | (apply v_buildSlice; (case hz => rfl); (case hi => rfl); (case hv => (simp only [List.map_cons, List.map_nil]; repeat (first | with_reducible exact evs_nil | (apply evs_cons; (case h1 => rfl))))); (case hp => (apply pk_cons; (case hc => rfl); (case hs => rfl); (case h => (with_reducible exact pk_nil)); (case he => ((repeat (first | with_reducible exact ap_nil | apply ap_cons)); done)))); (case hb => rfl); (case hd => rfl); intro b) | fail)
        rw [ep] at hga'
        have hwl' := wK_len (key := ksS) l (sesOf ⟨ac, aq, ae, af, av5, ar⟩) k true
        have hpm := List.perm_append_comm (l₁ := ([(b, .cells (Ss.cells ⟨xc, xs, ⟨lc, ls, le, lf, lv, lr⟩⟩).toArray 146 (0, 0)), (b3, .cells [.int .i64 ac, .int .i64 aq, .int .i64 ae, .bool af, .string av5, .int .i64 ar].toArray 40 (0, 0))] : OH)) (l₂ := ν')
        refine v_append (e := 146) (agg := true) (sz := 8) (bytes := 72) (zero := zS) rfl (by omega) rfl rfl hga' hpm (m' := 1) (us := (Ss.cells ⟨xc, xs, ⟨lc, ls, le, lf, lv, lr⟩⟩)) (Src.own (e := 146) (List.Mem.head _) rfl) rfl (by omega) (by simp only [maxLen]; omega) rfl fun v' ν' hg' => ?_
        have hga2 := GrS.snoc hg'
        refine v_perm (List.perm_append_comm (l₁ := ν')) ?_
        refine v_drop (ν := [(b3, .cells [.int .i64 ac, .int .i64 aq, .int .i64 ae, .bool af, .string av5, .int .i64 ar].toArray 40 (0, 0))] ++ ν') (List.Sublist.cons _ (List.Sublist.refl _)) ?_
        repeat' (first | apply v_region | apply v_nil | apply v_blk | (apply v_pure; (case hop => first | (apply p_move <;> rfl) | (apply p_assign <;> rfl) | (apply p_add; (case hx => rfl); (case hy => rfl); (case h => omega)) | fail); (case hd => rfl)) | fail)
        exact v_again rfl ⟨rfl, k + 1, true, _, _, by omega, rfl, rfl, by rw [← ew]; exact hga2, (fun h => by cases h), fun _ => hd1'⟩ (by simp [headI]; omega)
  · obtain rfl : k = l.length := by omega
    cases d with
    | true =>
      rw [wK_end] at hga
      repeat' (first | apply v_seq | apply v_region | apply v_nil | apply v_skip | (apply v_exit; (case hp => rfl)) | (apply v_pure; (case hop => first | (apply p_move <;> rfl) | (apply p_lt <;> rfl) | (apply p_assign <;> rfl) | (apply p_not <;> rfl) | (apply p_lenSlice <;> rfl) | fail); (case hd => rfl)) | (apply v_condF; (case hc => rfl)) | (apply v_cond; (case hc => rfl); all_goals (intro h; (try simp only [reduceCtorEq, zzz] at h); first | (exfalso; omega) | skip)) | fail)
      have hpm := List.perm_append_comm (l₁ := ([(b3, .cells [.int .i64 ac, .int .i64 aq, .int .i64 ae, .bool af, .string av5, .int .i64 ar].toArray 40 (0, 0))] : OH)) (l₂ := ν)
      refine v_perm hpm ?_
      refine v_frz ν (PickA.here _) ?_
      intro G2 hle2 hG2
      refine v_ret [] (outsA1 rfl rfl) (List.nil_sublist _) ⟨hle2, rfl, row_of_grow Ss.len hga hG2⟩
    | false =>
      have ep := wK_put (hd0 rfl)
      rw [wK_end] at ep
      repeat' (first | (apply v_read; (case hop => (apply r_loadNo; (case hx => rfl); (case h => repeat (exact mhd _)); (case hd => rfl); (case hn => rfl))); (case hd => rfl)) | apply v_seq | apply v_region | apply v_nil | (apply v_exit; (case hp => rfl)) | (apply v_pure; (case hop => first | (apply p_move <;> rfl) | (apply p_lt <;> rfl) | (apply p_not <;> rfl) | (apply p_lenSlice <;> rfl) | (apply p_fieldAddrB <;> rfl) | (apply p_build; (case hz => rfl); (case hv => (simp only [List.map_cons, List.map_nil]; repeat (first | with_reducible exact evs_nil | (apply evs_cons; (case h1 => rfl))))); (case hb => (apply bldL; repeat (first | exact bld_nil | (apply bld_cons; (case hpf => rfl); (case hc => rfl); (case hs => rfl); (case hl => rfl); (case ho => (first | ((repeat (first | with_reducible exact ov_nil | apply ov_cons)); done) | rfl))))))) | fail); (case hd => rfl)) | (apply v_condT; (case hc => rfl)) | (apply v_cond; (case hc => rfl); all_goals (intro h; (try simp only [reduceCtorEq, zzz] at h); first | (exfalso; omega) | skip)) | (apply v_read; (case hop => (apply r_load1; rfl; (apply Cell.own; (case h => (repeat (exact mhd _))); rfl))); (case hd => rfl)) | (apply v_buildSlice; (case hz => rfl); (case hi => rfl); (case hv => (simp only [List.map_cons, List.map_nil]; repeat (first | with_reducible exact evs_nil | (apply evs_cons; (case h1 => rfl))))); (case hp => (apply pk_cons; (case hc => rfl); (case hs => rfl); (case h => (with_reducible exact pk_nil)); (case he => (rfl)))); (case hb => rfl); (case hd => rfl); intro b) | fail)
      have hpm := List.perm_append_comm (l₁ := ([(b, .cells (sesOf ⟨ac, aq, ae, af, av5, ar⟩).cells.toArray 146 (0, 0)), (b3, .cells [.int .i64 ac, .int .i64 aq, .int .i64 ae, .bool af, .string av5, .int .i64 ar].toArray 40 (0, 0))] : OH)) (l₂ := ν)
      refine v_append (e := 146) (agg := true) (sz := 8) (bytes := 72) (zero := zS) rfl (by omega) rfl rfl hga hpm (m' := 1) (us := (sesOf ⟨ac, aq, ae, af, av5, ar⟩).cells) (Src.own (e := 146) (List.Mem.head _) rfl) rfl (by omega) (by simp only [maxLen]; omega) rfl fun v' ν' hg' => ?_
      have hga' := GrS.snoc hg'
      refine v_perm (List.perm_append_comm (l₁ := ν')) ?_
      refine v_drop (ν := [(b3, .cells [.int .i64 ac, .int .i64 aq, .int .i64 ae, .bool af, .string av5, .int .i64 ar].toArray 40 (0, 0))] ++ ν') (List.Sublist.cons _ (List.Sublist.refl _)) ?_
      rw [ep] at hga'
      repeat' (first | apply v_seq | apply v_region | apply v_nil | (apply v_pure; (case hop => first | (apply p_move <;> rfl) | (apply p_assign <;> rfl) | fail); (case hd => rfl)) | fail)
      have hpm := List.perm_append_comm (l₁ := ([(b3, .cells [.int .i64 ac, .int .i64 aq, .int .i64 ae, .bool af, .string av5, .int .i64 ar].toArray 40 (0, 0))] : OH)) (l₂ := ν')
      refine v_perm hpm ?_
      refine v_frz ν' (PickA.here _) ?_
      intro G2 hle2 hG2
      refine v_ret [] (outsA1 rfl rfl) (List.nil_sublist _) ⟨hle2, rfl, row_of_grow Ss.len hga' hG2⟩
theorem refPWith_s {G : GH} {l : List Pr} {sv : Value} (p : Pr) (hs : Prs G sv l) (hr : RiseW ksP l) (hn : l.length ≤ 200) (hz : Sized l) (hpz : p.key.size ≤ 200) : Con Tryz.prog 225 #[sv, .agg p.cells.toArray] G [] (fun r G' μ' => GH.le G G' ∧ μ' = [] ∧ Prs G' r (withG ksP l p)) := by
  obtain ⟨A, c, rfl, hlc, hcm, hsome, hcp⟩ := rowOpen hs
  simp only [maxLen] at hcm
  have hrg := riseG_pw.2 hr
  obtain ⟨pk, pv, pr⟩ := p
  simp only at hpz
  (refine v_enter Tryz.func225 rfl Tryz.ntmps225 rfl ?_; intro B _)
  repeat' (first | (apply v_box (zs := Pr.cells ⟨pk, pv, pr⟩); (case hx => rfl); (case hz => rfl); (case hd => rfl); intro b3) | apply v_seq | apply v_region | apply v_nil | apply v_block | (apply v_pure; (case hop => (apply p_assign <;> rfl)); (case hd => rfl)) | fail)
  refine v_loop [7, 0, 5, 6, 3] (fun us G' μ' => G' = G ∧ ∃ (k : Nat) (d : Bool) (av : Value) (ν : OH), k ≤ l.length ∧ us = [Value.int .i64 (k : Nat), .slice A l.length c, av, .bool d, .pointer (some ⟨b3, 0, none⟩)] ∧ μ' = [(b3, .cells [.string pk, .string pv, .int .i64 pr].toArray 144 (0, 0))] ++ ν ∧ GrP av (wK ksP l (⟨pk, pv, pr⟩ : Pr) k d) ν ∧ (d = false → ∀ i (hi : i < l.length), i < k → ksP l[i] < ksP (⟨pk, pv, pr⟩ : Pr)) ∧ (d = true → ∀ i (hi : i < l.length), k ≤ i → ksP (⟨pk, pv, pr⟩ : Pr) < ksP l[i])) (fun us => l.length - (headI us).toNat) rfl ⟨rfl, 0, false, .slice none 0 0, [], by omega, rfl, rfl, by rw [wK_zero]; exact Grow.nil _ _, fun _ i hi h => by omega, fun h => by cases h⟩ ?_
  rintro us G' _ ⟨hG', k, d, av, ν, hk, rfl, rfl, hga, hd0, hd1⟩
  subst hG'
  have hwl := wK_len (key := ksP) l (⟨pk, pv, pr⟩ : Pr) k d
  by_cases hlt : k < l.length
  · have e1 : ((k : Nat) : Int).toNat = k := by omega
    have hA := hsome (by omega)
    have hck := hcp k hlt
    have hxz := (hz _ (List.getElem_mem hlt)).1
    have hup : ∀ i (hi : i < l.length), k + 1 ≤ i → ksP l[k] < ksP l[i] := fun i hi h => hrg k i hi (by omega)
    rcases Int.lt_trichotomy (ksP l[k]) (ksP (⟨pk, pv, pr⟩ : Pr)) with hlt1 | heq | hgt
    · have ew := wK_less (key := ksP) (l := l) (p := (⟨pk, pv, pr⟩ : Pr)) hlt hlt1
      have hd0' : ∀ i (hi : i < l.length), i < k + 1 → ksP l[i] < ksP (⟨pk, pv, pr⟩ : Pr) := fun i hi h => by
        by_cases e : i = k
        · subst e; exact hlt1
        · cases d with
          | false => exact hd0 rfl i hi (by omega)
          | true => have := hd1 rfl k hlt (Nat.le_refl _); omega
      cases d with
      | true => have := hd1 rfl k hlt (Nat.le_refl _); omega
      | false =>
        clear hup hd0 hd1
        generalize l[k] = x at *
        obtain ⟨xk, xv, xr⟩ := x
        simp only at hxz
        have hc0 := hck.cell (j := 0) rfl
        simp only [ksP] at hlt1
        repeat' (first | apply v_seq | apply v_region | apply v_nil | apply v_skip | apply v_block | (apply v_pure; (case hop => first | (apply p_move <;> rfl) | (apply p_lt <;> rfl) | (apply p_lenSlice <;> rfl) | fail); (case hd => rfl)) | (apply v_cond; (case hc => rfl); all_goals (intro h; (try simp only [reduceCtorEq, zzz] at h); first | (exfalso; omega) | skip)) | fail)
        refine d_start [(b3, .cells [.string pk, .string pv, .int .i64 pr].toArray 144 (0, 0))] (by kernel_rfl) (by kernel_rfl) (by kernel_rfl) (by intro e he; (simp at he; simp [he]; done)) ?_
        all_goals (apply dtk 0; (case hi => rfl); (case hop => (apply prd; apply p_move <;> rfl)); (case hq => kernel_rfl))
        all_goals (apply dtk 1; (case hi => rfl); (case hop => (apply prd; apply p_not <;> rfl)); (case hq => kernel_rfl))
        all_goals (apply dtk 2; (case hi => rfl); (case hop => (apply prd; apply p_move <;> rfl)); (case hq => kernel_rfl))
        all_goals (try (apply d_guardB 3; (case hi => rfl); (case hgd => rfl); (case h1 => rfl); (case h2 => rfl); all_goals (intro h; (try simp only [reduceCtorEq, zzz] at h))))
        all_goals (apply dtg 3; (case hi => rfl); (case hg => rfl); (case hop => (apply prd; apply p_move <;> rfl)); (case hq => kernel_rfl))
        all_goals (try (apply d_guardB 4; (case hi => rfl); (case hgd => rfl); (case h1 => rfl); (case h2 => rfl); all_goals (intro h; (try simp only [reduceCtorEq, zzz] at h))))
        all_goals (apply dtg 4; (case hi => rfl); (case hg => rfl); (case hop => (apply prd; apply p_move <;> rfl)); (case hq => kernel_rfl))
        all_goals (try (apply d_guardB 5; (case hi => rfl); (case hgd => rfl); (case h1 => rfl); (case h2 => rfl); all_goals (intro h; (try simp only [reduceCtorEq, zzz] at h))))
        all_goals (apply dtg 5; (case hi => rfl); (case hg => rfl); (case hop => (apply prd; apply p_indexAddrS; (case hx => rfl); (case hi => rfl); (case h0 => omega); (case h => omega); (case hA => assumption))); (case hq => kernel_rfl))
        all_goals (try (apply d_guardB 6; (case hi => rfl); (case hgd => rfl); (case h1 => rfl); (case h2 => rfl); all_goals (intro h; (try simp only [reduceCtorEq, zzz] at h))))
        all_goals (apply dtg 6; (case hi => rfl); (case hg => rfl); (case hop => (apply prd; apply p_fieldAddr <;> rfl)); (case hq => kernel_rfl))
        all_goals (try (apply d_guardB 7; (case hi => rfl); (case hgd => rfl); (case h1 => rfl); (case h2 => rfl); all_goals (intro h; (try simp only [reduceCtorEq, zzz] at h))))
        all_goals (apply dtg 7; (case hi => rfl); (case hg => rfl); (case hop => ((apply r_load1; rfl; exact Cell.frozen hc0))); (case hq => kernel_rfl))
        all_goals (try (apply d_guardB 8; (case hi => rfl); (case hgd => rfl); (case h1 => rfl); (case h2 => rfl); all_goals (intro h; (try simp only [reduceCtorEq, zzz] at h))))
        all_goals (apply dtg 8; (case hi => rfl); (case hg => rfl); (case hop => (apply prd; apply p_fieldAddrB <;> rfl)); (case hq => kernel_rfl))
        all_goals (try (apply d_guardB 9; (case hi => rfl); (case hgd => rfl); (case h1 => rfl); (case h2 => rfl); all_goals (intro h; (try simp only [reduceCtorEq, zzz] at h))))
        all_goals (apply dtg 9; (case hi => rfl); (case hg => rfl); (case hop => (apply r_load1; rfl; (apply Cell.own; (case h => (repeat (exact mhd _))); rfl))); (case hq => kernel_rfl))
        all_goals (try (apply d_guardB 10; (case hi => rfl); (case hgd => rfl); (case h1 => rfl); (case h2 => rfl); all_goals (intro h; (try simp only [reduceCtorEq, zzz] at h))))
        all_goals (apply dtg 10; (case hi => rfl); (case hg => rfl); (case hop => ((apply prd; apply p_geK; (case hx => rfl); (case hy => rfl); (case ha => assumption); (case hb => assumption)))); (case hq => kernel_rfl))
        all_goals (apply dtk 11; (case hi => rfl); (case hop => (apply prd; apply p_pickT <;> rfl)); (case hq => kernel_rfl))
        all_goals (apply d_done; (case hr => kernel_rfl))
        repeat' (first | apply v_seq | apply v_skip | (apply v_cond; (case hc => rfl); all_goals (intro h; (try simp only [reduceCtorEq, zzz] at h); first | (exfalso; omega) | skip)) | fail)
        refine d_start [(b3, .cells [.string pk, .string pv, .int .i64 pr].toArray 144 (0, 0))] (by kernel_rfl) (by kernel_rfl) (by kernel_rfl) (by intro e he; (simp at he; simp [he]; done)) ?_
        all_goals (apply dtk 0; (case hi => rfl); (case hop => (apply prd; apply p_move <;> rfl)); (case hq => kernel_rfl))
        all_goals (apply dtk 1; (case hi => rfl); (case hop => (apply prd; apply p_move <;> rfl)); (case hq => kernel_rfl))
        all_goals (apply dtk 2; (case hi => rfl); (case hop => (apply prd; apply p_indexAddrS; (case hx => rfl); (case hi => rfl); (case h0 => omega); (case h => omega); (case hA => assumption))); (case hq => kernel_rfl))
        all_goals (apply dtk 3; (case hi => rfl); (case hop => (apply prd; apply p_fieldAddr <;> rfl)); (case hq => kernel_rfl))
        all_goals (apply dtk 4; (case hi => rfl); (case hop => ((apply r_load1; rfl; exact Cell.frozen hc0))); (case hq => kernel_rfl))
        all_goals (apply dtk 5; (case hi => rfl); (case hop => (apply prd; apply p_fieldAddrB <;> rfl)); (case hq => kernel_rfl))
        all_goals (apply dtk 6; (case hi => rfl); (case hop => (apply r_load1; rfl; (apply Cell.own; (case h => (repeat (exact mhd _))); rfl))); (case hq => kernel_rfl))
        all_goals (apply dtk 7; (case hi => rfl); (case hop => ((apply prd; apply p_neK; (case hx => rfl); (case hy => rfl); (case ha => assumption); (case hb => assumption)))); (case hq => kernel_rfl))
        all_goals (apply d_done; (case hr => kernel_rfl))
        repeat' (first | apply v_region | (apply v_pure; (case hop => first | (apply p_move <;> rfl) | (apply p_indexAddrS; (case hx => rfl); (case hi => rfl); (case h0 => omega); (case h => omega); (case hA => assumption)) | fail); (case hd => rfl)) | (apply v_cond; (case hc => rfl); all_goals (intro h; (try simp only [reduceCtorEq, zzz] at h); first | (exfalso; omega) | skip)) | (apply v_read; (case hop => (apply r_loadN; rfl; exact CellsAt.frozen hck; rfl)); (case hd => rfl)) | (apply v_buildSlice; (case hz => rfl); (case hi => rfl); (case hv => (simp only [List.map_cons, List.map_nil]; repeat (first | with_reducible exact evs_nil | (apply evs_cons; (case h1 => rfl))))); (case hp => (apply pk_cons; (case hc => rfl); (case hs => rfl); (case h => (with_reducible exact pk_nil)); (case he => ((repeat (first | with_reducible exact ap_nil | apply ap_cons)); done)))); (case hb => rfl); (case hd => rfl); intro b) | fail)
        have hpm := List.perm_append_comm (l₁ := ([(b, .cells (Pr.cells ⟨xk, xv, xr⟩).toArray 144 (0, 0)), (b3, .cells [.string pk, .string pv, .int .i64 pr].toArray 144 (0, 0))] : OH)) (l₂ := ν)
        refine v_append (e := 144) (agg := true) (sz := 3) (bytes := 40) (zero := zP) rfl (by omega) rfl rfl hga hpm (m' := 1) (us := (Pr.cells ⟨xk, xv, xr⟩)) (Src.own (e := 144) (List.Mem.head _) rfl) rfl (by omega) (by simp only [maxLen]; omega) rfl fun v' ν' hg' => ?_
        have hga' := GrP.snoc hg'
        refine v_perm (List.perm_append_comm (l₁ := ν')) ?_
        refine v_drop (ν := [(b3, .cells [.string pk, .string pv, .int .i64 pr].toArray 144 (0, 0))] ++ ν') (List.Sublist.cons _ (List.Sublist.refl _)) ?_
        repeat' (first | apply v_region | apply v_nil | apply v_blk | (apply v_pure; (case hop => first | (apply p_move <;> rfl) | (apply p_assign <;> rfl) | (apply p_add; (case hx => rfl); (case hy => rfl); (case h => omega)) | fail); (case hd => rfl)) | fail)
        exact v_again rfl ⟨rfl, k + 1, false, _, _, by omega, rfl, rfl, by rw [← ew]; exact hga', fun _ => hd0', (fun h => by cases h)⟩ (by simp [headI]; omega)
    · have ew := wK_same (key := ksP) (l := l) (p := (⟨pk, pv, pr⟩ : Pr)) hlt heq
      have hd1' : ∀ i (hi : i < l.length), k + 1 ≤ i → ksP (⟨pk, pv, pr⟩ : Pr) < ksP l[i] := fun i hi h => by have := hup i hi h; omega
      cases d with
      | true => have := hd1 rfl k hlt (Nat.le_refl _); omega
      | false =>
        have ep := wK_put (hd0 rfl)
        clear hup hd0 hd1
        generalize l[k] = x at *
        obtain ⟨xk, xv, xr⟩ := x
        simp only at hxz
        have hc0 := hck.cell (j := 0) rfl
        simp only [ksP] at heq
        repeat' (first | apply v_seq | apply v_region | apply v_nil | apply v_skip | apply v_block | (apply v_pure; (case hop => first | (apply p_move <;> rfl) | (apply p_lt <;> rfl) | (apply p_lenSlice <;> rfl) | fail); (case hd => rfl)) | (apply v_cond; (case hc => rfl); all_goals (intro h; (try simp only [reduceCtorEq, zzz] at h); first | (exfalso; omega) | skip)) | fail)
        refine d_start [(b3, .cells [.string pk, .string pv, .int .i64 pr].toArray 144 (0, 0))] (by kernel_rfl) (by kernel_rfl) (by kernel_rfl) (by intro e he; (simp at he; simp [he]; done)) ?_
        all_goals (apply dtk 0; (case hi => rfl); (case hop => (apply prd; apply p_move <;> rfl)); (case hq => kernel_rfl))
        all_goals (apply dtk 1; (case hi => rfl); (case hop => (apply prd; apply p_not <;> rfl)); (case hq => kernel_rfl))
        all_goals (apply dtk 2; (case hi => rfl); (case hop => (apply prd; apply p_move <;> rfl)); (case hq => kernel_rfl))
        all_goals (try (apply d_guardB 3; (case hi => rfl); (case hgd => rfl); (case h1 => rfl); (case h2 => rfl); all_goals (intro h; (try simp only [reduceCtorEq, zzz] at h))))
        all_goals (apply dtg 3; (case hi => rfl); (case hg => rfl); (case hop => (apply prd; apply p_move <;> rfl)); (case hq => kernel_rfl))
        all_goals (try (apply d_guardB 4; (case hi => rfl); (case hgd => rfl); (case h1 => rfl); (case h2 => rfl); all_goals (intro h; (try simp only [reduceCtorEq, zzz] at h))))
        all_goals (apply dtg 4; (case hi => rfl); (case hg => rfl); (case hop => (apply prd; apply p_move <;> rfl)); (case hq => kernel_rfl))
        all_goals (try (apply d_guardB 5; (case hi => rfl); (case hgd => rfl); (case h1 => rfl); (case h2 => rfl); all_goals (intro h; (try simp only [reduceCtorEq, zzz] at h))))
        all_goals (apply dtg 5; (case hi => rfl); (case hg => rfl); (case hop => (apply prd; apply p_indexAddrS; (case hx => rfl); (case hi => rfl); (case h0 => omega); (case h => omega); (case hA => assumption))); (case hq => kernel_rfl))
        all_goals (try (apply d_guardB 6; (case hi => rfl); (case hgd => rfl); (case h1 => rfl); (case h2 => rfl); all_goals (intro h; (try simp only [reduceCtorEq, zzz] at h))))
        all_goals (apply dtg 6; (case hi => rfl); (case hg => rfl); (case hop => (apply prd; apply p_fieldAddr <;> rfl)); (case hq => kernel_rfl))
        all_goals (try (apply d_guardB 7; (case hi => rfl); (case hgd => rfl); (case h1 => rfl); (case h2 => rfl); all_goals (intro h; (try simp only [reduceCtorEq, zzz] at h))))
        all_goals (apply dtg 7; (case hi => rfl); (case hg => rfl); (case hop => ((apply r_load1; rfl; exact Cell.frozen hc0))); (case hq => kernel_rfl))
        all_goals (try (apply d_guardB 8; (case hi => rfl); (case hgd => rfl); (case h1 => rfl); (case h2 => rfl); all_goals (intro h; (try simp only [reduceCtorEq, zzz] at h))))
        all_goals (apply dtg 8; (case hi => rfl); (case hg => rfl); (case hop => (apply prd; apply p_fieldAddrB <;> rfl)); (case hq => kernel_rfl))
        all_goals (try (apply d_guardB 9; (case hi => rfl); (case hgd => rfl); (case h1 => rfl); (case h2 => rfl); all_goals (intro h; (try simp only [reduceCtorEq, zzz] at h))))
        all_goals (apply dtg 9; (case hi => rfl); (case hg => rfl); (case hop => (apply r_load1; rfl; (apply Cell.own; (case h => (repeat (exact mhd _))); rfl))); (case hq => kernel_rfl))
        all_goals (try (apply d_guardB 10; (case hi => rfl); (case hgd => rfl); (case h1 => rfl); (case h2 => rfl); all_goals (intro h; (try simp only [reduceCtorEq, zzz] at h))))
        all_goals (apply dtg 10; (case hi => rfl); (case hg => rfl); (case hop => ((apply prd; apply p_geK; (case hx => rfl); (case hy => rfl); (case ha => assumption); (case hb => assumption)))); (case hq => kernel_rfl))
        all_goals (apply dtk 11; (case hi => rfl); (case hop => (apply prd; apply p_pickT <;> rfl)); (case hq => kernel_rfl))
        all_goals (apply d_done; (case hr => kernel_rfl))
        repeat' (first | (apply v_read; (case hop => (apply r_loadNo; (case hx => rfl); (case h => repeat (exact mhd _)); (case hd => rfl); (case hn => rfl))); (case hd => rfl)) | apply v_seq | apply v_region | (apply v_pure; (case hop => (apply p_move <;> rfl)); (case hd => rfl)) | (apply v_cond; (case hc => rfl); all_goals (intro h; (try simp only [reduceCtorEq, zzz] at h); first | (exfalso; omega) | skip)) | (apply v_buildSlice; (case hz => rfl); (case hi => rfl); (case hv => (simp only [List.map_cons, List.map_nil]; repeat (first | with_reducible exact evs_nil | (apply evs_cons; (case h1 => rfl))))); (case hp => (apply pk_cons; (case hc => rfl); (case hs => rfl); (case h => (with_reducible exact pk_nil)); (case he => (rfl)))); (case hb => rfl); (case hd => rfl); intro b) | fail)
        have hpm := List.perm_append_comm (l₁ := ([(b, .cells (Pr.cells ⟨pk, pv, pr⟩).toArray 144 (0, 0)), (b3, .cells [.string pk, .string pv, .int .i64 pr].toArray 144 (0, 0))] : OH)) (l₂ := ν)
        refine v_append (e := 144) (agg := true) (sz := 3) (bytes := 40) (zero := zP) rfl (by omega) rfl rfl hga hpm (m' := 1) (us := (Pr.cells ⟨pk, pv, pr⟩)) (Src.own (e := 144) (List.Mem.head _) rfl) rfl (by omega) (by simp only [maxLen]; omega) rfl fun v' ν' hg' => ?_
        have hga' := GrP.snoc hg'
        refine v_perm (List.perm_append_comm (l₁ := ν')) ?_
        refine v_drop (ν := [(b3, .cells [.string pk, .string pv, .int .i64 pr].toArray 144 (0, 0))] ++ ν') (List.Sublist.cons _ (List.Sublist.refl _)) ?_
        repeat' (first | apply v_seq | apply v_region | apply v_nil | (apply v_pure; (case hop => (apply p_assign <;> rfl)); (case hd => rfl)) | fail)
        refine d_start [(b3, .cells [.string pk, .string pv, .int .i64 pr].toArray 144 (0, 0))] (by kernel_rfl) (by kernel_rfl) (by kernel_rfl) (by intro e he; (simp at he; simp [he]; done)) ?_
        all_goals (apply dtk 0; (case hi => rfl); (case hop => (apply prd; apply p_move <;> rfl)); (case hq => kernel_rfl))
        all_goals (apply dtk 1; (case hi => rfl); (case hop => (apply prd; apply p_move <;> rfl)); (case hq => kernel_rfl))
        all_goals (apply dtk 2; (case hi => rfl); (case hop => (apply prd; apply p_indexAddrS; (case hx => rfl); (case hi => rfl); (case h0 => omega); (case h => omega); (case hA => assumption))); (case hq => kernel_rfl))
        all_goals (apply dtk 3; (case hi => rfl); (case hop => (apply prd; apply p_fieldAddr <;> rfl)); (case hq => kernel_rfl))
        all_goals (apply dtk 4; (case hi => rfl); (case hop => ((apply r_load1; rfl; exact Cell.frozen hc0))); (case hq => kernel_rfl))
        all_goals (apply dtk 5; (case hi => rfl); (case hop => (apply prd; apply p_fieldAddrB <;> rfl)); (case hq => kernel_rfl))
        all_goals (apply dtk 6; (case hi => rfl); (case hop => (apply r_load1; rfl; (apply Cell.own; (case h => (repeat (exact mhd _))); rfl))); (case hq => kernel_rfl))
        all_goals (apply dtk 7; (case hi => rfl); (case hop => ((apply prd; apply p_neK; (case hx => rfl); (case hy => rfl); (case ha => assumption); (case hb => assumption)))); (case hq => kernel_rfl))
        all_goals (apply d_done; (case hr => kernel_rfl))
        repeat' (first | apply v_region | apply v_nil | apply v_skip | apply v_blk | (apply v_pure; (case hop => first | (apply p_move <;> rfl) | (apply p_assign <;> rfl) | (apply p_add; (case hx => rfl); (case hy => rfl); (case h => omega)) | fail); (case hd => rfl)) | (apply v_cond; (case hc => rfl); all_goals (intro h; (try simp only [reduceCtorEq, zzz] at h); first | (exfalso; omega) | skip)) | fail)
        exact v_again rfl ⟨rfl, k + 1, true, _, _, by omega, rfl, rfl, by rw [← ew, ← ep]; exact hga', (fun h => by cases h), fun _ => hd1'⟩ (by simp [headI]; omega)
    · have ew := wK_more (key := ksP) (l := l) (p := (⟨pk, pv, pr⟩ : Pr)) hlt hgt
      have hd1' : ∀ i (hi : i < l.length), k + 1 ≤ i → ksP (⟨pk, pv, pr⟩ : Pr) < ksP l[i] := fun i hi h => by have := hup i hi h; omega
      cases d with
      | true =>
        clear hup hd0 hd1
        generalize l[k] = x at *
        obtain ⟨xk, xv, xr⟩ := x
        simp only at hxz
        have hc0 := hck.cell (j := 0) rfl
        simp only [ksP] at hgt
        repeat' (first | apply v_seq | apply v_region | apply v_nil | apply v_skip | apply v_block | (apply v_pure; (case hop => first | (apply p_move <;> rfl) | (apply p_lt <;> rfl) | (apply p_lenSlice <;> rfl) | fail); (case hd => rfl)) | (apply v_cond; (case hc => rfl); all_goals (intro h; (try simp only [reduceCtorEq, zzz] at h); first | (exfalso; omega) | skip)) | fail)
        refine d_start [(b3, .cells [.string pk, .string pv, .int .i64 pr].toArray 144 (0, 0))] (by kernel_rfl) (by kernel_rfl) (by kernel_rfl) (by intro e he; (simp at he; simp [he]; done)) ?_
        all_goals (apply dtk 0; (case hi => rfl); (case hop => (apply prd; apply p_move <;> rfl)); (case hq => kernel_rfl))
        all_goals (apply dtk 1; (case hi => rfl); (case hop => (apply prd; apply p_not <;> rfl)); (case hq => kernel_rfl))
        all_goals (apply dtk 2; (case hi => rfl); (case hop => (apply prd; apply p_move <;> rfl)); (case hq => kernel_rfl))
        all_goals (try (apply d_guardB 3; (case hi => rfl); (case hgd => rfl); (case h1 => rfl); (case h2 => rfl); all_goals (intro h; (try simp only [reduceCtorEq, zzz] at h))))
        all_goals (apply dpa 3; (case hi => rfl); (case hg => rfl); (case hn => rfl); (case hq => kernel_rfl))
        all_goals (try (apply d_guardB 4; (case hi => rfl); (case hgd => rfl); (case h1 => rfl); (case h2 => rfl); all_goals (intro h; (try simp only [reduceCtorEq, zzz] at h))))
        all_goals (apply dpa 4; (case hi => rfl); (case hg => rfl); (case hn => rfl); (case hq => kernel_rfl))
        all_goals (try (apply d_guardB 5; (case hi => rfl); (case hgd => rfl); (case h1 => rfl); (case h2 => rfl); all_goals (intro h; (try simp only [reduceCtorEq, zzz] at h))))
        all_goals (apply dpa 5; (case hi => rfl); (case hg => rfl); (case hn => rfl); (case hq => kernel_rfl))
        all_goals (try (apply d_guardB 6; (case hi => rfl); (case hgd => rfl); (case h1 => rfl); (case h2 => rfl); all_goals (intro h; (try simp only [reduceCtorEq, zzz] at h))))
        all_goals (apply dpa 6; (case hi => rfl); (case hg => rfl); (case hn => rfl); (case hq => kernel_rfl))
        all_goals (try (apply d_guardB 7; (case hi => rfl); (case hgd => rfl); (case h1 => rfl); (case h2 => rfl); all_goals (intro h; (try simp only [reduceCtorEq, zzz] at h))))
        all_goals (apply dpa 7; (case hi => rfl); (case hg => rfl); (case hn => rfl); (case hq => kernel_rfl))
        all_goals (try (apply d_guardB 8; (case hi => rfl); (case hgd => rfl); (case h1 => rfl); (case h2 => rfl); all_goals (intro h; (try simp only [reduceCtorEq, zzz] at h))))
        all_goals (apply dpa 8; (case hi => rfl); (case hg => rfl); (case hn => rfl); (case hq => kernel_rfl))
        all_goals (try (apply d_guardB 9; (case hi => rfl); (case hgd => rfl); (case h1 => rfl); (case h2 => rfl); all_goals (intro h; (try simp only [reduceCtorEq, zzz] at h))))
        all_goals (apply dpa 9; (case hi => rfl); (case hg => rfl); (case hn => rfl); (case hq => kernel_rfl))
        all_goals (try (apply d_guardB 10; (case hi => rfl); (case hgd => rfl); (case h1 => rfl); (case h2 => rfl); all_goals (intro h; (try simp only [reduceCtorEq, zzz] at h))))
        all_goals (apply dpa 10; (case hi => rfl); (case hg => rfl); (case hn => rfl); (case hq => kernel_rfl))
        all_goals (apply dtk 11; (case hi => rfl); (case hop => (apply prd; apply p_pickF <;> rfl)); (case hq => kernel_rfl))
        all_goals (apply d_done; (case hr => kernel_rfl))
        repeat' (first | apply v_seq | apply v_skip | (apply v_condF; (case hc => rfl)) | fail)
        refine d_start [(b3, .cells [.string pk, .string pv, .int .i64 pr].toArray 144 (0, 0))] (by kernel_rfl) (by kernel_rfl) (by kernel_rfl) (by intro e he; (simp at he; simp [he]; done)) ?_
        all_goals (apply dtk 0; (case hi => rfl); (case hop => (apply prd; apply p_move <;> rfl)); (case hq => kernel_rfl))
        all_goals (apply dtk 1; (case hi => rfl); (case hop => (apply prd; apply p_move <;> rfl)); (case hq => kernel_rfl))
        all_goals (apply dtk 2; (case hi => rfl); (case hop => (apply prd; apply p_indexAddrS; (case hx => rfl); (case hi => rfl); (case h0 => omega); (case h => omega); (case hA => assumption))); (case hq => kernel_rfl))
        all_goals (apply dtk 3; (case hi => rfl); (case hop => (apply prd; apply p_fieldAddr <;> rfl)); (case hq => kernel_rfl))
        all_goals (apply dtk 4; (case hi => rfl); (case hop => ((apply r_load1; rfl; exact Cell.frozen hc0))); (case hq => kernel_rfl))
        all_goals (apply dtk 5; (case hi => rfl); (case hop => (apply prd; apply p_fieldAddrB <;> rfl)); (case hq => kernel_rfl))
        all_goals (apply dtk 6; (case hi => rfl); (case hop => (apply r_load1; rfl; (apply Cell.own; (case h => (repeat (exact mhd _))); rfl))); (case hq => kernel_rfl))
        all_goals (apply dtk 7; (case hi => rfl); (case hop => ((apply prd; apply p_neK; (case hx => rfl); (case hy => rfl); (case ha => assumption); (case hb => assumption)))); (case hq => kernel_rfl))
        all_goals (apply d_done; (case hr => kernel_rfl))
        repeat' (first | apply v_region | (apply v_pure; (case hop => first | (apply p_move <;> rfl) | (apply p_indexAddrS; (case hx => rfl); (case hi => rfl); (case h0 => omega); (case h => omega); (case hA => assumption)) | fail); (case hd => rfl)) | (apply v_cond; (case hc => rfl); all_goals (intro h; (try simp only [reduceCtorEq, zzz] at h); first | (exfalso; omega) | skip)) | (apply v_read; (case hop => (apply r_loadN; rfl; exact CellsAt.frozen hck; rfl)); (case hd => rfl)) | (apply v_buildSlice; (case hz => rfl); (case hi => rfl); (case hv => (simp only [List.map_cons, List.map_nil]; repeat (first | with_reducible exact evs_nil | (apply evs_cons; (case h1 => rfl))))); (case hp => (apply pk_cons; (case hc => rfl); (case hs => rfl); (case h => (with_reducible exact pk_nil)); (case he => ((repeat (first | with_reducible exact ap_nil | apply ap_cons)); done)))); (case hb => rfl); (case hd => rfl); intro b) | fail)
        have hpm := List.perm_append_comm (l₁ := ([(b, .cells (Pr.cells ⟨xk, xv, xr⟩).toArray 144 (0, 0)), (b3, .cells [.string pk, .string pv, .int .i64 pr].toArray 144 (0, 0))] : OH)) (l₂ := ν)
        refine v_append (e := 144) (agg := true) (sz := 3) (bytes := 40) (zero := zP) rfl (by omega) rfl rfl hga hpm (m' := 1) (us := (Pr.cells ⟨xk, xv, xr⟩)) (Src.own (e := 144) (List.Mem.head _) rfl) rfl (by omega) (by simp only [maxLen]; omega) rfl fun v' ν' hg' => ?_
        have hga' := GrP.snoc hg'
        refine v_perm (List.perm_append_comm (l₁ := ν')) ?_
        refine v_drop (ν := [(b3, .cells [.string pk, .string pv, .int .i64 pr].toArray 144 (0, 0))] ++ ν') (List.Sublist.cons _ (List.Sublist.refl _)) ?_
        repeat' (first | apply v_region | apply v_nil | apply v_blk | (apply v_pure; (case hop => first | (apply p_move <;> rfl) | (apply p_assign <;> rfl) | (apply p_add; (case hx => rfl); (case hy => rfl); (case h => omega)) | fail); (case hd => rfl)) | fail)
        exact v_again rfl ⟨rfl, k + 1, true, _, _, by omega, rfl, rfl, by rw [← ew]; exact hga', (fun h => by cases h), fun _ => hd1'⟩ (by simp [headI]; omega)
      | false =>
        have ep := wK_put (hd0 rfl)
        clear hup hd0 hd1
        generalize l[k] = x at *
        obtain ⟨xk, xv, xr⟩ := x
        simp only at hxz
        have hc0 := hck.cell (j := 0) rfl
        simp only [ksP] at hgt
        repeat' (first | apply v_seq | apply v_region | apply v_nil | apply v_skip | apply v_block | (apply v_pure; (case hop => first | (apply p_move <;> rfl) | (apply p_lt <;> rfl) | (apply p_lenSlice <;> rfl) | fail); (case hd => rfl)) | (apply v_cond; (case hc => rfl); all_goals (intro h; (try simp only [reduceCtorEq, zzz] at h); first | (exfalso; omega) | skip)) | fail)
        refine d_start [(b3, .cells [.string pk, .string pv, .int .i64 pr].toArray 144 (0, 0))] (by kernel_rfl) (by kernel_rfl) (by kernel_rfl) (by intro e he; (simp at he; simp [he]; done)) ?_
        all_goals (apply dtk 0; (case hi => rfl); (case hop => (apply prd; apply p_move <;> rfl)); (case hq => kernel_rfl))
        all_goals (apply dtk 1; (case hi => rfl); (case hop => (apply prd; apply p_not <;> rfl)); (case hq => kernel_rfl))
        all_goals (apply dtk 2; (case hi => rfl); (case hop => (apply prd; apply p_move <;> rfl)); (case hq => kernel_rfl))
        all_goals (try (apply d_guardB 3; (case hi => rfl); (case hgd => rfl); (case h1 => rfl); (case h2 => rfl); all_goals (intro h; (try simp only [reduceCtorEq, zzz] at h))))
        all_goals (apply dtg 3; (case hi => rfl); (case hg => rfl); (case hop => (apply prd; apply p_move <;> rfl)); (case hq => kernel_rfl))
        all_goals (try (apply d_guardB 4; (case hi => rfl); (case hgd => rfl); (case h1 => rfl); (case h2 => rfl); all_goals (intro h; (try simp only [reduceCtorEq, zzz] at h))))
        all_goals (apply dtg 4; (case hi => rfl); (case hg => rfl); (case hop => (apply prd; apply p_move <;> rfl)); (case hq => kernel_rfl))
        all_goals (try (apply d_guardB 5; (case hi => rfl); (case hgd => rfl); (case h1 => rfl); (case h2 => rfl); all_goals (intro h; (try simp only [reduceCtorEq, zzz] at h))))
        all_goals (apply dtg 5; (case hi => rfl); (case hg => rfl); (case hop => (apply prd; apply p_indexAddrS; (case hx => rfl); (case hi => rfl); (case h0 => omega); (case h => omega); (case hA => assumption))); (case hq => kernel_rfl))
        all_goals (try (apply d_guardB 6; (case hi => rfl); (case hgd => rfl); (case h1 => rfl); (case h2 => rfl); all_goals (intro h; (try simp only [reduceCtorEq, zzz] at h))))
        all_goals (apply dtg 6; (case hi => rfl); (case hg => rfl); (case hop => (apply prd; apply p_fieldAddr <;> rfl)); (case hq => kernel_rfl))
        all_goals (try (apply d_guardB 7; (case hi => rfl); (case hgd => rfl); (case h1 => rfl); (case h2 => rfl); all_goals (intro h; (try simp only [reduceCtorEq, zzz] at h))))
        all_goals (apply dtg 7; (case hi => rfl); (case hg => rfl); (case hop => ((apply r_load1; rfl; exact Cell.frozen hc0))); (case hq => kernel_rfl))
        all_goals (try (apply d_guardB 8; (case hi => rfl); (case hgd => rfl); (case h1 => rfl); (case h2 => rfl); all_goals (intro h; (try simp only [reduceCtorEq, zzz] at h))))
        all_goals (apply dtg 8; (case hi => rfl); (case hg => rfl); (case hop => (apply prd; apply p_fieldAddrB <;> rfl)); (case hq => kernel_rfl))
        all_goals (try (apply d_guardB 9; (case hi => rfl); (case hgd => rfl); (case h1 => rfl); (case h2 => rfl); all_goals (intro h; (try simp only [reduceCtorEq, zzz] at h))))
        all_goals (apply dtg 9; (case hi => rfl); (case hg => rfl); (case hop => (apply r_load1; rfl; (apply Cell.own; (case h => (repeat (exact mhd _))); rfl))); (case hq => kernel_rfl))
        all_goals (try (apply d_guardB 10; (case hi => rfl); (case hgd => rfl); (case h1 => rfl); (case h2 => rfl); all_goals (intro h; (try simp only [reduceCtorEq, zzz] at h))))
        all_goals (apply dtg 10; (case hi => rfl); (case hg => rfl); (case hop => ((apply prd; apply p_geK; (case hx => rfl); (case hy => rfl); (case ha => assumption); (case hb => assumption)))); (case hq => kernel_rfl))
        all_goals (apply dtk 11; (case hi => rfl); (case hop => (apply prd; apply p_pickT <;> rfl)); (case hq => kernel_rfl))
        all_goals (apply d_done; (case hr => kernel_rfl))
        repeat' (first | (apply v_read; (case hop => (apply r_loadNo; (case hx => rfl); (case h => repeat (exact mhd _)); (case hd => rfl); (case hn => rfl))); (case hd => rfl)) | apply v_seq | apply v_region | (apply v_pure; (case hop => (apply p_move <;> rfl)); (case hd => rfl)) | (apply v_cond; (case hc => rfl); all_goals (intro h; (try simp only [reduceCtorEq, zzz] at h); first | (exfalso; omega) | skip)) | (apply v_buildSlice; (case hz => rfl); (case hi => rfl); (case hv => (simp only [List.map_cons, List.map_nil]; repeat (first | with_reducible exact evs_nil | (apply evs_cons; (case h1 => rfl))))); (case hp => (apply pk_cons; (case hc => rfl); (case hs => rfl); (case h => (with_reducible exact pk_nil)); (case he => (rfl)))); (case hb => rfl); (case hd => rfl); intro b) | fail)
        have hpm := List.perm_append_comm (l₁ := ([(b, .cells (Pr.cells ⟨pk, pv, pr⟩).toArray 144 (0, 0)), (b3, .cells [.string pk, .string pv, .int .i64 pr].toArray 144 (0, 0))] : OH)) (l₂ := ν)
        refine v_append (e := 144) (agg := true) (sz := 3) (bytes := 40) (zero := zP) rfl (by omega) rfl rfl hga hpm (m' := 1) (us := (Pr.cells ⟨pk, pv, pr⟩)) (Src.own (e := 144) (List.Mem.head _) rfl) rfl (by omega) (by simp only [maxLen]; omega) rfl fun v' ν' hg' => ?_
        have hga' := GrP.snoc hg'
        refine v_perm (List.perm_append_comm (l₁ := ν')) ?_
        refine v_drop (ν := [(b3, .cells [.string pk, .string pv, .int .i64 pr].toArray 144 (0, 0))] ++ ν') (List.Sublist.cons _ (List.Sublist.refl _)) ?_
        repeat' (first | apply v_seq | apply v_region | apply v_nil | (apply v_pure; (case hop => (apply p_assign <;> rfl)); (case hd => rfl)) | fail)
        refine d_start [(b3, .cells [.string pk, .string pv, .int .i64 pr].toArray 144 (0, 0))] (by kernel_rfl) (by kernel_rfl) (by kernel_rfl) (by intro e he; (simp at he; simp [he]; done)) ?_
        all_goals (apply dtk 0; (case hi => rfl); (case hop => (apply prd; apply p_move <;> rfl)); (case hq => kernel_rfl))
        all_goals (apply dtk 1; (case hi => rfl); (case hop => (apply prd; apply p_move <;> rfl)); (case hq => kernel_rfl))
        all_goals (apply dtk 2; (case hi => rfl); (case hop => (apply prd; apply p_indexAddrS; (case hx => rfl); (case hi => rfl); (case h0 => omega); (case h => omega); (case hA => assumption))); (case hq => kernel_rfl))
        all_goals (apply dtk 3; (case hi => rfl); (case hop => (apply prd; apply p_fieldAddr <;> rfl)); (case hq => kernel_rfl))
        all_goals (apply dtk 4; (case hi => rfl); (case hop => ((apply r_load1; rfl; exact Cell.frozen hc0))); (case hq => kernel_rfl))
        all_goals (apply dtk 5; (case hi => rfl); (case hop => (apply prd; apply p_fieldAddrB <;> rfl)); (case hq => kernel_rfl))
        all_goals (apply dtk 6; (case hi => rfl); (case hop => (apply r_load1; rfl; (apply Cell.own; (case h => (repeat (exact mhd _))); rfl))); (case hq => kernel_rfl))
        all_goals (apply dtk 7; (case hi => rfl); (case hop => ((apply prd; apply p_neK; (case hx => rfl); (case hy => rfl); (case ha => assumption); (case hb => assumption)))); (case hq => kernel_rfl))
        all_goals (apply d_done; (case hr => kernel_rfl))
        repeat' (first | apply v_region | (apply v_pure; (case hop => first | (apply p_move <;> rfl) | (apply p_indexAddrS; (case hx => rfl); (case hi => rfl); (case h0 => omega); (case h => omega); (case hA => assumption)) | fail); (case hd => rfl)) | (apply v_cond; (case hc => rfl); all_goals (intro h; (try simp only [reduceCtorEq, zzz] at h); first | (exfalso; omega) | skip)) | (apply v_read; (case hop => (apply r_loadN; rfl; exact CellsAt.frozen hck; rfl)); (case hd => rfl)) | (apply v_buildSlice; (case hz => rfl); (case hi => rfl); (case hv => (simp only [List.map_cons, List.map_nil]; repeat (first | with_reducible exact evs_nil | (apply evs_cons; (case h1 => rfl))))); (case hp => (apply pk_cons; (case hc => rfl); (case hs => rfl); (case h => (with_reducible exact pk_nil)); (case he => ((repeat (first | with_reducible exact ap_nil | apply ap_cons)); done)))); (case hb => rfl); (case hd => rfl); intro b) | fail)
        rw [ep] at hga'
        have hwl' := wK_len (key := ksP) l (⟨pk, pv, pr⟩ : Pr) k true
        have hpm := List.perm_append_comm (l₁ := ([(b, .cells (Pr.cells ⟨xk, xv, xr⟩).toArray 144 (0, 0)), (b3, .cells [.string pk, .string pv, .int .i64 pr].toArray 144 (0, 0))] : OH)) (l₂ := ν')
        refine v_append (e := 144) (agg := true) (sz := 3) (bytes := 40) (zero := zP) rfl (by omega) rfl rfl hga' hpm (m' := 1) (us := (Pr.cells ⟨xk, xv, xr⟩)) (Src.own (e := 144) (List.Mem.head _) rfl) rfl (by omega) (by simp only [maxLen]; omega) rfl fun v' ν' hg' => ?_
        have hga2 := GrP.snoc hg'
        refine v_perm (List.perm_append_comm (l₁ := ν')) ?_
        refine v_drop (ν := [(b3, .cells [.string pk, .string pv, .int .i64 pr].toArray 144 (0, 0))] ++ ν') (List.Sublist.cons _ (List.Sublist.refl _)) ?_
        repeat' (first | apply v_region | apply v_nil | apply v_blk | (apply v_pure; (case hop => first | (apply p_move <;> rfl) | (apply p_assign <;> rfl) | (apply p_add; (case hx => rfl); (case hy => rfl); (case h => omega)) | fail); (case hd => rfl)) | fail)
        exact v_again rfl ⟨rfl, k + 1, true, _, _, by omega, rfl, rfl, by rw [← ew]; exact hga2, (fun h => by cases h), fun _ => hd1'⟩ (by simp [headI]; omega)
  · obtain rfl : k = l.length := by omega
    cases d with
    | true =>
      rw [wK_end] at hga
      repeat' (first | apply v_seq | apply v_region | apply v_nil | apply v_skip | (apply v_exit; (case hp => rfl)) | (apply v_pure; (case hop => first | (apply p_move <;> rfl) | (apply p_lt <;> rfl) | (apply p_assign <;> rfl) | (apply p_not <;> rfl) | (apply p_lenSlice <;> rfl) | fail); (case hd => rfl)) | (apply v_condF; (case hc => rfl)) | (apply v_cond; (case hc => rfl); all_goals (intro h; (try simp only [reduceCtorEq, zzz] at h); first | (exfalso; omega) | skip)) | fail)
      have hpm := List.perm_append_comm (l₁ := ([(b3, .cells [.string pk, .string pv, .int .i64 pr].toArray 144 (0, 0))] : OH)) (l₂ := ν)
      refine v_perm hpm ?_
      refine v_frz ν (PickA.here _) ?_
      intro G2 hle2 hG2
      refine v_ret [] (outsA1 rfl rfl) (List.nil_sublist _) ⟨hle2, rfl, row_of_grow Pr.len hga hG2⟩
    | false =>
      have ep := wK_put (hd0 rfl)
      rw [wK_end] at ep
      repeat' (first | (apply v_read; (case hop => (apply r_loadNo; (case hx => rfl); (case h => repeat (exact mhd _)); (case hd => rfl); (case hn => rfl))); (case hd => rfl)) | apply v_seq | apply v_region | apply v_nil | (apply v_exit; (case hp => rfl)) | (apply v_pure; (case hop => first | (apply p_move <;> rfl) | (apply p_lt <;> rfl) | (apply p_not <;> rfl) | (apply p_lenSlice <;> rfl) | fail); (case hd => rfl)) | (apply v_condT; (case hc => rfl)) | (apply v_cond; (case hc => rfl); all_goals (intro h; (try simp only [reduceCtorEq, zzz] at h); first | (exfalso; omega) | skip)) | (apply v_buildSlice; (case hz => rfl); (case hi => rfl); (case hv => (simp only [List.map_cons, List.map_nil]; repeat (first | with_reducible exact evs_nil | (apply evs_cons; (case h1 => rfl))))); (case hp => (apply pk_cons; (case hc => rfl); (case hs => rfl); (case h => (with_reducible exact pk_nil)); (case he => (rfl)))); (case hb => rfl); (case hd => rfl); intro b) | fail)
      have hpm := List.perm_append_comm (l₁ := ([(b, .cells (Pr.cells ⟨pk, pv, pr⟩).toArray 144 (0, 0)), (b3, .cells [.string pk, .string pv, .int .i64 pr].toArray 144 (0, 0))] : OH)) (l₂ := ν)
      refine v_append (e := 144) (agg := true) (sz := 3) (bytes := 40) (zero := zP) rfl (by omega) rfl rfl hga hpm (m' := 1) (us := (Pr.cells ⟨pk, pv, pr⟩)) (Src.own (e := 144) (List.Mem.head _) rfl) rfl (by omega) (by simp only [maxLen]; omega) rfl fun v' ν' hg' => ?_
      have hga' := GrP.snoc hg'
      refine v_perm (List.perm_append_comm (l₁ := ν')) ?_
      refine v_drop (ν := [(b3, .cells [.string pk, .string pv, .int .i64 pr].toArray 144 (0, 0))] ++ ν') (List.Sublist.cons _ (List.Sublist.refl _)) ?_
      rw [ep] at hga'
      repeat' (first | apply v_seq | apply v_region | apply v_nil | (apply v_pure; (case hop => first | (apply p_move <;> rfl) | (apply p_assign <;> rfl) | fail); (case hd => rfl)) | fail)
      have hpm := List.perm_append_comm (l₁ := ([(b3, .cells [.string pk, .string pv, .int .i64 pr].toArray 144 (0, 0))] : OH)) (l₂ := ν')
      refine v_perm hpm ?_
      refine v_frz ν' (PickA.here _) ?_
      intro G2 hle2 hG2
      refine v_ret [] (outsA1 rfl rfl) (List.nil_sublist _) ⟨hle2, rfl, row_of_grow Pr.len hga' hG2⟩
theorem refWithout_s {G : GH} {l : List Pr} {sv : Value} (key : ByteArray) (hs : Prs G sv l) (hn : l.length ≤ 200) (hz : Sized l) (hkz : key.size ≤ 200) : Con Tryz.prog 226 #[sv, .string key] G [] (fun r G' μ' => GH.le G G' ∧ μ' = [] ∧ Prs G' r (l.filter (fun x => decide (ksP x ≠ kn key)))) := by
  obtain ⟨A, c, rfl, hlc, hcm, hsome, hcp⟩ := rowOpen hs
  simp only [maxLen] at hcm
  (refine v_enter Tryz.func226 rfl Tryz.ntmps226 rfl ?_; intro B _)
  repeat' (first | apply v_seq | apply v_region | apply v_nil | apply v_block | (apply v_pure; (case hop => (apply p_assign <;> rfl)); (case hd => rfl)) | fail)
  refine v_loop [6, 0, 5, 1] (fun us G' μ' => G' = G ∧ ∃ (k : Nat) (av : Value), k ≤ l.length ∧ us = [Value.int .i64 (k : Nat), .slice A l.length c, av, .string key] ∧ GrP av ((l.take k).filter (fun x => decide (ksP x ≠ kn key))) μ') (fun us => l.length - (headI us).toNat) rfl ⟨rfl, 0, .slice none 0 0, by omega, rfl, Grow.nil _ _⟩ ?_
  rintro us G' ν ⟨hG', k, av, hk, rfl, hga⟩
  subst hG'
  have hwl : ((l.take k).filter (fun x => decide (ksP x ≠ kn key))).length ≤ k := Nat.le_trans (List.length_filter_le _ _) (by rw [List.length_take]; omega)
  by_cases hlt : k < l.length
  · have e1 : ((k : Nat) : Int).toNat = k := by omega
    have hA := hsome (by omega)
    have hck := hcp k hlt
    have hxz := (hz _ (List.getElem_mem hlt)).1
    by_cases he : (l[k]).key = key
    · have ew : (l.take (k + 1)).filter (fun x => decide (ksP x ≠ kn key)) = (l.take k).filter (fun x => decide (ksP x ≠ kn key)) := by
        rw [List.take_succ_eq_append_getElem hlt, List.filter_append, List.filter_cons_of_neg (by simp [ksP, he])]
        simp
      generalize l[k] = x at *
      obtain ⟨xk, xv, xr⟩ := x
      have hc0 := hck.cell (j := 0) rfl
      simp only at he
      repeat' (first | apply v_seq | apply v_region | apply v_nil | apply v_skip | apply v_block | apply v_blk | (apply v_pure; (case hop => first | (apply p_move <;> rfl) | (apply p_lt <;> rfl) | (apply p_assign <;> rfl) | (apply p_lenSlice <;> rfl) | (apply p_fieldAddr <;> rfl) | (apply p_add; (case hx => rfl); (case hy => rfl); (case h => omega)) | (apply p_indexAddrS; (case hx => rfl); (case hi => rfl); (case h0 => omega); (case h => omega); (case hA => assumption)) | (apply p_neS <;> rfl) | fail); (case hd => rfl)) | (apply v_cond; (case hc => rfl); all_goals (intro h; (try simp only [reduceCtorEq, zzz] at h); first | (exfalso; omega) | (exfalso; exact h (by with_reducible assumption)) | skip)) | (apply v_read; (case hop => (apply r_load1; rfl; exact Cell.frozen hc0)); (case hd => rfl)) | fail)
      all_goals first
        | (exfalso; exact absurd he (by assumption))
        | exact v_again rfl ⟨rfl, k + 1, _, by omega, rfl, by rw [ew]; exact hga⟩ (by simp [headI]; omega)
    · have ew : (l.take (k + 1)).filter (fun x => decide (ksP x ≠ kn key)) = (l.take k).filter (fun x => decide (ksP x ≠ kn key)) ++ [l[k]] := by
        rw [List.take_succ_eq_append_getElem hlt, List.filter_append, List.filter_cons_of_pos (by simp only [decide_eq_true_eq]; intro h; exact he ((kn_inj hxz hkz).1 h))]
        simp
      generalize l[k] = x at *
      obtain ⟨xk, xv, xr⟩ := x
      have hc0 := hck.cell (j := 0) rfl
      simp only at he
      repeat' (first | apply v_seq | apply v_region | apply v_nil | apply v_skip | apply v_block | (apply v_pure; (case hop => first | (apply p_move <;> rfl) | (apply p_lt <;> rfl) | (apply p_lenSlice <;> rfl) | (apply p_fieldAddr <;> rfl) | (apply p_indexAddrS; (case hx => rfl); (case hi => rfl); (case h0 => omega); (case h => omega); (case hA => assumption)) | (apply p_neS <;> rfl) | fail); (case hd => rfl)) | (apply v_cond; (case hc => rfl); all_goals (intro h; (try simp only [reduceCtorEq, zzz] at h); first | (exfalso; omega) | (exfalso; revert h; rw [imp_false]; with_reducible assumption) | skip)) | (apply v_read; (case hop => (apply r_load1; rfl; exact Cell.frozen hc0)); (case hd => rfl)) | (apply v_read; (case hop => (apply r_loadN; rfl; exact CellsAt.frozen hck; rfl)); (case hd => rfl)) | (apply v_buildSlice; (case hz => rfl); (case hi => rfl); (case hv => (simp only [List.map_cons, List.map_nil]; repeat (first | with_reducible exact evs_nil | (apply evs_cons; (case h1 => rfl))))); (case hp => (apply pk_cons; (case hc => rfl); (case hs => rfl); (case h => (with_reducible exact pk_nil)); (case he => ((repeat (first | with_reducible exact ap_nil | apply ap_cons)); done)))); (case hb => rfl); (case hd => rfl); intro b) | fail)
      all_goals first
        | (exfalso; exact absurd (by assumption) he)
        | skip
      have hpm := List.perm_append_comm (l₁ := ([(b, .cells (Pr.cells ⟨xk, xv, xr⟩).toArray 144 (0, 0))] : OH)) (l₂ := ν)
      refine v_append (e := 144) (agg := true) (sz := 3) (bytes := 40) (zero := zP) rfl (by omega) rfl rfl hga hpm (m' := 1) (us := (Pr.cells ⟨xk, xv, xr⟩)) (Src.own (e := 144) (List.Mem.head _) rfl) rfl (by omega) (by simp only [maxLen]; omega) rfl fun v' ν' hg' => ?_
      have hga' := GrP.snoc hg'
      refine v_drop (ν := ν') (List.sublist_append_left _ _) ?_
      repeat' (first | apply v_region | apply v_nil | apply v_blk | (apply v_pure; (case hop => first | (apply p_move <;> rfl) | (apply p_assign <;> rfl) | (apply p_add; (case hx => rfl); (case hy => rfl); (case h => omega)) | fail); (case hd => rfl)) | fail)
      exact v_again rfl ⟨rfl, k + 1, _, by omega, rfl, by rw [ew]; exact hga'⟩ (by simp [headI]; omega)
  · obtain rfl : k = l.length := by omega
    rw [List.take_length] at hga
    repeat' (first | apply v_seq | apply v_region | apply v_nil | (apply v_exit; (case hp => rfl)) | (apply v_pure; (case hop => first | (apply p_move <;> rfl) | (apply p_lt <;> rfl) | (apply p_assign <;> rfl) | (apply p_lenSlice <;> rfl) | fail); (case hd => rfl)) | (apply v_cond; (case hc => rfl); all_goals (intro h; (try simp only [reduceCtorEq, zzz] at h); first | (exfalso; omega) | skip)) | fail)
    refine v_perm (ν := ν ++ []) (by rw [List.append_nil]) ?_
    refine v_frz ν (PickA.here _) ?_
    intro G2 hle2 hG2
    refine v_ret [] (outsA1 rfl rfl) (List.nil_sublist _) ⟨hle2, rfl, row_of_grow Pr.len hga hG2⟩
def lastS (l : List Ss) (n : Int) : Int × An := if hitG ksS l n = true then ((sesAt l n).seq, (sesAt l n).last) else (0, zA)
theorem refLast_s {G : GH} {l : List Ss} {sv : Value} (n : Int) (hs : Sss G sv l) (hr : RiseW ksS l) : Con Tryz.prog 154 #[sv, .int .i64 n] G [] (Just (.tuple [.int .i64 (lastS l n).1, .agg (lastS l n).2.cells.toArray].toArray) G) := by
  obtain ⟨A, c, rfl, hlc, hcm, hsome, hcp⟩ := rowOpen hs
  simp only [maxLen] at hcm
  have hrg := riseG_pw.2 hr
  apply Con.just
  (refine v_enter Tryz.func154 rfl Tryz.ntmps154 rfl ?_; intro B _)
  repeat' (first | (apply v_alloc (d := 5); (case hz => rfl); (case hd => rfl); intro b5) | apply v_seq | apply v_region | apply v_nil | apply v_block | (apply v_pure; (case hop => (apply p_assign <;> rfl)); (case hd => rfl)) | fail)
  refine v_loop [6, 0, 1, 5] (fun us G' μ' => G' = G ∧ μ' = [(b5, .cells [.int .i64 0, .int .i64 0, .int .i64 0, .bool false, .string ByteArray.empty, .int .i64 0].toArray 40 (0, 0))] ∧ ∃ k : Nat, k ≤ l.length ∧ us = [Value.int .i64 (k : Nat), .slice A l.length c, .int .i64 n, .pointer (some ⟨b5, 0, none⟩)] ∧ ∀ i (h : i < l.length), i < k → l[i].client ≠ n) (fun us => l.length - (headI us).toNat) rfl ⟨rfl, rfl, 0, by omega, rfl, by omega⟩ ?_
  rintro us G' _ ⟨rfl, rfl, k, hk, rfl, hno⟩
  by_cases hlt : k < l.length
  · have e1 : ((k : Nat) : Int).toNat = k := by omega
    have hA := hsome (by omega)
    have hck := hcp k hlt
    have hyes : (l[k]).client = n → lastS l n = ((l[k]).seq, (l[k]).last) := fun h => by
      have hp : placeG ksS l n = k := placeG_eq hk (fun m hm hmk => by have := hrg m k hlt hmk; rw [← h]; exact this) (fun m hm hkm => by
        by_cases e : m = k
        · subst e; show ¬ (l[m]).client < n; omega
        · have := hrg k m hm (by omega); rw [← h]; simp only [ksS] at this ⊢; omega)
      have hh : hitG ksS l n = true := by
        unfold hitG
        rw [dif_pos (by rw [hp]; exact hlt)]
        refine decide_eq_true ?_
        have : l[placeG ksS l n]'(by rw [hp]; exact hlt) = l[k] := by congr 1
        rw [this, ← h]
      have hs : sesAt l n = l[k] := by
        unfold sesAt
        rw [dif_pos hh]
        congr 1
      unfold lastS
      rw [if_pos hh, hs]
    have hnx : (l[k]).client ≠ n → ∀ i (h : i < l.length), i < k + 1 → l[i].client ≠ n := fun a2 i hi hik => by
      by_cases e : i = k
      · subst e; exact a2
      · exact hno i hi (by omega)
    generalize l[k] = x at *
    obtain ⟨xc, xs, ⟨lc, ls, le, lf, lv, lr⟩⟩ := x
    have hl : CellsG G' (((adr A).add (k * 8)).add 2) (An.cells ⟨lc, ls, le, lf, lv, lr⟩) := lastAt hck
    have hc0 := hck.cell (j := 0) rfl
    have hc1 := hck.cell (j := 1) rfl
    simp only at hyes hnx
    by_cases he : xc = n
    · rw [hyes he]
      repeat' (first | apply v_seq | apply v_region | apply v_nil | apply v_skip | apply v_block | (apply v_pure; (case hop => first | (apply p_move <;> rfl) | (apply p_eq <;> rfl) | (apply p_lt <;> rfl) | (apply p_lenSlice <;> rfl) | (apply p_fieldAddr <;> rfl) | (apply p_indexAddrS; (case hx => rfl); (case hi => rfl); (case h0 => omega); (case h => omega); (case hA => assumption)) | fail); (case hd => rfl)) | (apply v_cond; (case hc => rfl); all_goals (intro h; (try simp only [reduceCtorEq, zzz] at h); first | (exfalso; omega) | skip)) | (apply v_read; (case hop => (apply r_load1; rfl; exact Cell.frozen hc0)); (case hd => rfl)) | fail)
      refine d_start [] (by kernel_rfl) (by kernel_rfl) (by kernel_rfl) (by intro e he; (simp at he ⊢; try omega)) ?_
      all_goals (apply dtk 0; (case hi => rfl); (case hop => (apply prd; apply p_move <;> rfl)); (case hq => kernel_rfl))
      all_goals (apply dtk 1; (case hi => rfl); (case hop => (apply prd; apply p_move <;> rfl)); (case hq => kernel_rfl))
      all_goals (apply dtk 2; (case hi => rfl); (case hop => (apply prd; apply p_indexAddrS; (case hx => rfl); (case hi => rfl); (case h0 => omega); (case h => omega); (case hA => assumption))); (case hq => kernel_rfl))
      all_goals (apply dtk 3; (case hi => rfl); (case hop => (apply prd; apply p_fieldAddr <;> rfl)); (case hq => kernel_rfl))
      all_goals (apply dtk 4; (case hi => rfl); (case hop => ((apply r_load1; rfl; exact Cell.frozen hc1))); (case hq => kernel_rfl))
      all_goals (apply dtk 5; (case hi => rfl); (case hop => (apply prd; apply p_move <;> rfl)); (case hq => kernel_rfl))
      all_goals (apply dtk 6; (case hi => rfl); (case hop => (apply prd; apply p_move <;> rfl)); (case hq => kernel_rfl))
      all_goals (apply dtk 7; (case hi => rfl); (case hop => (apply prd; apply p_indexAddrS; (case hx => rfl); (case hi => rfl); (case h0 => omega); (case h => omega); (case hA => assumption))); (case hq => kernel_rfl))
      all_goals (apply dtk 8; (case hi => rfl); (case hop => (apply prd; apply p_fieldAddr <;> rfl)); (case hq => kernel_rfl))
      all_goals (apply dtk 9; (case hi => rfl); (case hop => ((apply r_loadN; rfl; exact CellsAt.frozen hl; rfl))); (case hq => kernel_rfl))
      all_goals (apply dtk 10; (case hi => rfl); (case hop => (apply prd; apply p_assign <;> rfl)); (case hq => kernel_rfl))
      all_goals (apply d_store 11; (case hi => rfl); (case hr => kernel_rfl); (case hL => infer_instance); (case hp => rfl); (case hx => rfl); (case hc => rfl); (case hsz => rfl); (case h1 => rfl); (case hb => (repeat (exact mhd _))); (case hfit => exact nle rfl); (case hov => ((repeat (first | with_reducible exact ov_nil | apply ov_cons)); done)); (case hu => repeat (exact Upd.here _ _)); (case hν' => intro e he; (cases he; done)))
      all_goals (apply d_done; (case hr => kernel_rfl))
      repeat' (fail)
      refine v_retM [] (outsM_tc (sz1 := 6) (vs1 := An.cells ⟨lc, ls, le, lf, lv, lr⟩) (e1 := 40) rfl rfl rfl (by repeat (exact mhd _)) rfl) (List.nil_sublist _) ⟨rfl, rfl⟩
    · repeat' (first | apply v_seq | apply v_region | apply v_nil | apply v_skip | apply v_block | apply v_blk | (apply v_pure; (case hop => first | (apply p_move <;> rfl) | (apply p_eq <;> rfl) | (apply p_lt <;> rfl) | (apply p_assign <;> rfl) | (apply p_lenSlice <;> rfl) | (apply p_fieldAddr <;> rfl) | (apply p_add; (case hx => rfl); (case hy => rfl); (case h => omega)) | (apply p_indexAddrS; (case hx => rfl); (case hi => rfl); (case h0 => omega); (case h => omega); (case hA => assumption)) | fail); (case hd => rfl)) | (apply v_cond; (case hc => rfl); all_goals (intro h; (try simp only [reduceCtorEq, zzz] at h); first | (exfalso; omega) | skip)) | (apply v_read; (case hop => (apply r_load1; rfl; exact Cell.frozen hc0)); (case hd => rfl)) | fail)
      refine v_again rfl ⟨rfl, rfl, k + 1, by omega, rfl, hnx he⟩ (by simp [headI]; omega)
  · have hh : hitG ksS l n = false := by
      cases hh : hitG ksS l n with
      | false => rfl
      | true =>
        obtain ⟨x, hx, e⟩ := (hit_iff hr).1 hh
        obtain ⟨i, hi, rfl⟩ := List.getElem_of_mem hx
        exact absurd e (hno i hi (by omega))
    have hl : lastS l n = (0, zA) := by unfold lastS; rw [hh, if_neg (by simp)]
    rw [hl]
    repeat' (first | apply v_seq | apply v_region | apply v_nil | (apply v_exit; (case hp => rfl)) | (apply v_pure; (case hop => first | (apply p_move <;> rfl) | (apply p_lt <;> rfl) | (apply p_assign <;> rfl) | (apply p_lenSlice <;> rfl) | (apply p_build; (case hz => rfl); (case hv => (simp only [List.map_cons, List.map_nil]; repeat (with_reducible exact evs_nil))); (case hb => (apply bldL; repeat (exact bld_nil)))) | fail); (case hd => rfl)) | (apply v_cond; (case hc => rfl); all_goals (intro h; (try simp only [reduceCtorEq, zzz] at h); first | (exfalso; omega) | skip)) | (apply v_store; (case hp => rfl); (case hx => rfl); (case hc => rfl); (case hsz => rfl); (case h1 => rfl); (case hb => (repeat (exact mhd _))); (case hfit => exact nle rfl); (case hov => ((repeat (first | with_reducible exact ov_nil | apply ov_cons)); done)); (case hu => repeat (exact Upd.here _ _))) | fail)
    refine v_retM [] (outsM_tc (sz1 := 6) (vs1 := zA.cells) (e1 := 40) rfl rfl rfl (by repeat (exact mhd _)) rfl) (List.nil_sublist _) ⟨rfl, rfl⟩
def revsS (s : St) (z r : Int) : St := ⟨z, s.pairs.map (revOf r), s.sess⟩
theorem refRevs_s {G : GH} {s : St} {v : Value} (z r : Int) (hs : StV G s v) (hn : s.pairs.length ≤ 200) : Con Tryz.prog 153 #[v, .int .i64 z, .int .i64 r] G [] (fun r' G' μ' => GH.le G G' ∧ μ' = [] ∧ StV G' (revsS s z r) r') := by
  obtain ⟨A, c, A', c', rfl, hp, hss⟩ := id hs
  obtain ⟨schema, lp, ls⟩ := s
  unfold revsS
  simp only at *
  obtain ⟨B0, e0, e, hlc, hcm, hsome, hcp⟩ := rowOpen hp
  cases e
  simp only [maxLen] at hcm
  (refine v_enter Tryz.func153 rfl Tryz.ntmps153 rfl ?_; intro B _)
  repeat' (first | (apply v_box (zs := [.int .i64 schema, .slice A lp.length c, .slice A' ls.length c']); (case hx => rfl); (case hz => rfl); (case hd => rfl); intro b3) | (apply v_alloc (d := 6); (case hz => rfl); (case hd => rfl); intro b6) | (apply v_alloc (d := 7); (case hz => rfl); (case hd => rfl); intro b7) | apply v_seq | apply v_region | apply v_nil | apply v_block | (apply v_pure; (case hop => first | (apply p_move <;> rfl) | (apply p_assign <;> rfl) | (apply p_fieldAddrB <;> rfl) | (apply p_build; (case hz => rfl); (case hv => (simp only [List.map_cons, List.map_nil]; repeat (first | with_reducible exact evs_nil | (apply evs_cons; (case h1 => rfl))))); (case hb => (apply bldL; repeat (first | exact bld_nil | (apply bld_cons; (case hpf => rfl); (case hc => rfl); (case hs => rfl); (case hl => rfl); (case ho => ((repeat (first | with_reducible exact ov_nil | apply ov_cons)); done)))))))); (case hd => rfl)) | (apply v_read; (case hop => (apply r_load1; rfl; (apply Cell.own; (case h => (repeat (first | exact mhd _ | apply mtl))); rfl))); (case hd => rfl)) | (apply v_store; (case hp => rfl); (case hx => rfl); (case hc => rfl); (case hsz => rfl); (case h1 => rfl); (case hb => (repeat (exact mhd _))); (case hfit => exact nle rfl); (case hov => ((repeat (first | with_reducible exact ov_nil | apply ov_cons)); done)); (case hu => repeat (exact Upd.here _ _))) | fail)
  refine v_perm (ν := [(b7, .cells [.int .i64 z, .slice none 0 0, .slice A' ls.length c'].toArray 32 (0, 0)), (b6, .cells [.int .i64 0, .slice none 0 0, .slice none 0 0].toArray 32 (0, 0)), (b3, .cells [.int .i64 schema, .slice A lp.length c, .slice A' ls.length c'].toArray 32 (0, 0))]) (by apply perm_of_count; intro p; simp only [List.append_eq, List.countP_append, List.countP_cons, List.countP_nil, Nat.zero_add, Nat.add_zero]; try ac_rfl) ?_
  refine v_loop [8, 3, 7, 2, 6] (fun us G' μ' => G' = G ∧ ∃ (k : Nat) (A2 : Option Addr) (c2 : Nat) (ν : OH), k ≤ lp.length ∧ us = [Value.int .i64 (k : Nat), .pointer (some ⟨b3, 0, none⟩), .pointer (some ⟨b7, 0, none⟩), .int .i64 r, .pointer (some ⟨b6, 0, none⟩)] ∧ μ' = (b7, .cells [.int .i64 z, .slice A2 k c2, .slice A' ls.length c'].toArray 32 (0, 0)) :: (b6, .cells [.int .i64 0, .slice none 0 0, .slice none 0 0].toArray 32 (0, 0)) :: (b3, .cells [.int .i64 schema, .slice A lp.length c, .slice A' ls.length c'].toArray 32 (0, 0)) :: ν ∧ GrP (.slice A2 k c2) ((lp.take k).map (revOf r)) ν) (fun us => lp.length - (headI us).toNat) rfl ⟨rfl, 0, none, 0, [], by omega, rfl, rfl, Grow.nil _ _⟩ ?_
  rintro us G' _ ⟨hG', k, A2, c2, ν, hk, rfl, rfl, hga⟩
  subst hG'
  have hwl : ((lp.take k).map (revOf r)).length = k := by rw [List.length_map, List.length_take]; omega
  by_cases hlt : k < lp.length
  · have e1 : ((k : Nat) : Int).toNat = k := by omega
    have hA := hsome (by omega)
    have hck := hcp k hlt
    have ew : (lp.take (k + 1)).map (revOf r) = (lp.take k).map (revOf r) ++ [revOf r lp[k]] := by
      rw [List.take_succ_eq_append_getElem hlt, List.map_append]; rfl
    generalize lp[k] = x at *
    obtain ⟨xk, xv, xr⟩ := x
    repeat' (first | (apply v_alloc (d := 9); (case hz => rfl); (case hd => rfl); intro b9) | (apply v_read; (case hop => (apply r_loadNo; (case hx => rfl); (case h => repeat (exact mhd _)); (case hd => rfl); (case hn => rfl))); (case hd => rfl)) | apply v_seq | apply v_region | apply v_nil | apply v_skip | apply v_block | (apply v_pure; (case hop => first | (apply p_move <;> rfl) | (apply p_lt <;> rfl) | (apply p_lenSlice <;> rfl) | (apply p_fieldAddrB <;> rfl) | (apply p_indexAddrS; (case hx => rfl); (case hi => rfl); (case h0 => omega); (case h => omega); (case hA => assumption)) | fail); (case hd => rfl)) | (apply v_cond; (case hc => rfl); all_goals (intro h; (try simp only [reduceCtorEq, zzz] at h); first | (exfalso; omega) | skip)) | (apply v_read; (case hop => (apply r_loadN; rfl; exact CellsAt.frozen hck; rfl)); (case hd => rfl)) | (apply v_read; (case hop => (apply r_load1; rfl; (apply Cell.own; (case h => (repeat (first | exact mhd _ | apply mtl))); rfl))); (case hd => rfl)) | (apply v_buildSlice; (case hz => rfl); (case hi => rfl); (case hv => (simp only [List.map_cons, List.map_nil]; repeat (first | with_reducible exact evs_nil | (apply evs_cons; (case h1 => rfl))))); (case hp => (apply pk_cons; (case hc => rfl); (case hs => rfl); (case h => (with_reducible exact pk_nil)); (case he => (rfl)))); (case hb => rfl); (case hd => rfl); intro b) | (apply v_store; (case hp => rfl); (case hx => rfl); (case hc => rfl); (case hsz => rfl); (case h1 => rfl); (case hb => (repeat (exact mhd _))); (case hfit => exact nle rfl); (case hov => ((repeat (first | with_reducible exact ov_nil | apply ov_cons)); done)); (case hu => repeat (exact Upd.here _ _))) | fail)
    have hpm := List.perm_append_comm (l₁ := ([(b, .cells (Pr.cells ⟨xk, xv, r⟩).toArray 144 (0, 0)), (b9, .cells (Pr.cells ⟨xk, xv, r⟩).toArray 144 (0, 0)), (b7, .cells [.int .i64 z, .slice A2 k c2, .slice A' ls.length c'].toArray 32 (0, 0)), (b6, .cells [.int .i64 0, .slice none 0 0, .slice none 0 0].toArray 32 (0, 0)), (b3, .cells [.int .i64 schema, .slice A lp.length c, .slice A' ls.length c'].toArray 32 (0, 0))] : OH)) (l₂ := ν)
    refine v_append (e := 144) (agg := true) (sz := 3) (bytes := 40) (zero := zP) rfl (by omega) rfl rfl (m := k) (by unfold GrP at hga; rw [hwl] at hga; exact hga) hpm (m' := 1) (us := (Pr.cells ⟨xk, xv, r⟩)) (Src.own (e := 144) (List.Mem.head _) rfl) rfl (by omega) (by simp only [maxLen]; omega) rfl fun v' ν' hg' => ?_
    have hga' : GrP v' ((lp.take (k + 1)).map (revOf r)) ν' := by rw [ew]; exact GrP.snoc (a := ⟨xk, xv, r⟩) (by rw [hwl]; exact hg')
    have hwl' : ((lp.take (k + 1)).map (revOf r)).length = k + 1 := by rw [List.length_map, List.length_take]; omega
    obtain ⟨A3, c3, e3, -, -⟩ := id hga'.shape
    rw [hwl'] at e3
    subst e3
    refine v_perm (List.perm_append_comm (l₁ := ν')) ?_
    refine v_drop (ν := [(b7, .cells [.int .i64 z, .slice A2 k c2, .slice A' ls.length c'].toArray 32 (0, 0)), (b6, .cells [.int .i64 0, .slice none 0 0, .slice none 0 0].toArray 32 (0, 0)), (b3, .cells [.int .i64 schema, .slice A lp.length c, .slice A' ls.length c'].toArray 32 (0, 0))] ++ ν') (List.Sublist.cons _ (List.Sublist.cons _ (List.Sublist.refl _))) ?_
    repeat' (first | apply v_region | apply v_nil | apply v_blk | (apply v_pure; (case hop => first | (apply p_move <;> rfl) | (apply p_assign <;> rfl) | (apply p_fieldAddrB <;> rfl) | (apply p_add; (case hx => rfl); (case hy => rfl); (case h => omega)) | fail); (case hd => rfl)) | (apply v_store; (case hp => rfl); (case hx => rfl); (case hc => rfl); (case hsz => rfl); (case h1 => rfl); (case hb => (repeat (exact mhd _))); (case hfit => exact nle rfl); (case hov => ((repeat (first | with_reducible exact ov_nil | apply ov_cons)); done)); (case hu => repeat (exact Upd.here _ _))) | fail)
    exact v_again rfl ⟨rfl, k + 1, A3, c3, ν', by omega, rfl, rfl, hga'⟩ (by simp [headI]; omega)
  · obtain rfl : k = lp.length := by omega
    rw [List.take_length] at hga
    have hl2 : (lp.map (revOf r)).length = lp.length := List.length_map ..
    repeat' (first | apply v_seq | apply v_region | apply v_nil | (apply v_exit; (case hp => rfl)) | (apply v_pure; (case hop => first | (apply p_move <;> rfl) | (apply p_lt <;> rfl) | (apply p_lenSlice <;> rfl) | (apply p_fieldAddrB <;> rfl) | fail); (case hd => rfl)) | (apply v_cond; (case hc => rfl); all_goals (intro h; (try simp only [reduceCtorEq, zzz] at h); first | (exfalso; omega) | skip)) | (apply v_read; (case hop => first | (apply r_loadNo; (case hx => rfl); (case h => (repeat (exact mhd _))); (case hd => (repeat (first | with_reducible exact dt_nil | apply dt_here))); (case hn => rfl)) | (apply r_load1; rfl; (apply Cell.own; (case h => (repeat (first | exact mhd _ | apply mtl))); rfl)) | fail); (case hd => rfl)) | (apply v_store; (case hp => rfl); (case hx => rfl); (case hc => rfl); (case hsz => rfl); (case h1 => rfl); (case hb => (repeat (first | exact mhd _ | apply mtl))); (case hfit => exact nle rfl); (case hov => ((repeat (first | with_reducible exact ov_nil | apply ov_cons)); done)); (case hu => repeat (first | exact Upd.here _ _ | apply Upd.there))) | fail)
    have hpm := List.perm_append_comm (l₁ := ([(b7, .cells [.int .i64 z, .slice A2 lp.length c2, .slice A' ls.length c'].toArray 32 (0, 0)), (b6, .cells [.int .i64 z, .slice A2 lp.length c2, .slice A' ls.length c'].toArray 32 (0, 0)), (b3, .cells [.int .i64 schema, .slice A lp.length c, .slice A' ls.length c'].toArray 32 (0, 0))] : OH)) (l₂ := ν)
    refine v_perm hpm ?_
    refine v_frz ν (PickA.here _) ?_
    intro G2 hle2 hG2
    have hp2 := row_of_grow Pr.len hga hG2
    refine v_retM [] (outsM_cell (sz := 3) (vs := [.int .i64 z, .slice A2 lp.length c2, .slice A' ls.length c']) (e := 32) rfl rfl (by repeat (first | exact mhd _ | apply mtl)) rfl) (List.nil_sublist _) ⟨hle2, rfl, A2, c2, A', c', by simp only [hl2], by rw [← hl2] at hp2; exact hp2, hss.mono hle2⟩
def prR (z : Int) (f : Pr) : Int := if z = 2 then nextR f.rev else 0
noncomputable def doR (z : Int) (l : List Pr) (c : Cm) : List Pr × An :=
  if c.kind = 2 then (if hitG ksP l (kn c.key) = false ∧ 64 ≤ l.length then (l, { ans0 c with err := 11 }) else (withG ksP l ⟨c.key, c.val, prR z (findP l (kn c.key))⟩, { ans0 c with found := hitG ksP l (kn c.key), val := (findP l (kn c.key)).val }))
  else if c.kind = 4 then (l.filter (fun x => decide (ksP x ≠ kn c.key)), { ans0 c with found := hitG ksP l (kn c.key), val := (findP l (kn c.key)).val })
  else if c.kind = 5 then (if hitG ksP l (kn c.key) = false then (l, { ans0 c with err := 10 }) else if (findP l (kn c.key)).val = c.old then (withG ksP l ⟨c.key, c.val, prR z (findP l (kn c.key))⟩, { ans0 c with found := true, val := (findP l (kn c.key)).val, rev := prR z (findP l (kn c.key)) }) else (l, { ans0 c with err := 15, found := true, val := (findP l (kn c.key)).val, rev := (findP l (kn c.key)).rev }))
  else (l, { ans0 c with found := hitG ksP l (kn c.key), val := (findP l (kn c.key)).val })
theorem roomB_iff {l : List Pr} {n : Int} : roomB l n = true ↔ ¬ (hitG ksP l n = false ∧ 64 ≤ l.length) := by
  unfold roomB
  cases hitG ksP l n <;> simp
theorem doR_eq {z : Int} {l : List Pr} (c : Cm) (hz : z = 1 ∨ z = 2) (hk : 2 ≤ c.kind ∧ c.kind ≤ 5) (h5 : c.kind = 5 → z = 2) : doS z l c = doR z l c := by
  have hroom := roomB_iff (l := l) (n := kn c.key)
  unfold doS doR prR
  rcases hz with rfl | rfl
  · rw [if_pos rfl]
    unfold doOne
    by_cases h2 : c.kind = 2
    · rw [if_pos h2, if_pos h2]
      by_cases hr : roomB l (kn c.key) = true
      · rw [if_pos hr, if_neg (hroom.1 hr)]
        simp
      · rw [if_neg hr, if_pos (Classical.not_not.1 (fun h => hr (hroom.2 h)))]
    · rw [if_neg h2, if_neg h2]
      by_cases h3 : c.kind = 3
      · rw [if_pos h3, if_neg (by omega), if_neg (by omega)]
      · by_cases h4 : c.kind = 4
        · rw [if_neg h3, if_pos h4, if_pos h4]
        · exact absurd (h5 (by omega)) (by omega)
  · rw [if_neg (by omega)]
    unfold doTwo
    by_cases h5 : c.kind = 5
    · rw [if_pos h5, if_neg (by omega), if_neg (by omega), if_pos h5]
      unfold casP
      simp
    · rw [if_neg h5]
      by_cases h2 : c.kind = 2
      · rw [if_pos h2]
        by_cases hr : roomB l (kn c.key) = true
        · have e : doOne l c = (withG ksP l ⟨c.key, c.val, 0⟩, { ans0 c with found := hitG ksP l (kn c.key), val := (findP l (kn c.key)).val }) := by
            unfold doOne; rw [if_pos h2, if_pos hr]
          rw [e, if_pos ⟨h2, rfl⟩, if_neg (hroom.1 hr)]
          simp only
          rw [withG_twice (by rfl)]
          simp
        · have e : doOne l c = (l, { ans0 c with err := 11 }) := by
            unfold doOne; rw [if_pos h2, if_neg hr]
          rw [e, if_neg (fun h => absurd h.2 (by simp)), if_pos (Classical.not_not.1 (fun h => hr (hroom.2 h)))]
      · rw [if_neg (fun h => h2 h.1), if_neg h2]
        unfold doOne
        rw [if_neg h2]
        by_cases h3 : c.kind = 3
        · rw [if_pos h3, if_neg (by omega), if_neg h5]
        · rw [if_neg h3, if_pos (by omega), if_pos (by omega)]
end Go.Proofs.YtmdeeokejdkceaaGreatDoor
