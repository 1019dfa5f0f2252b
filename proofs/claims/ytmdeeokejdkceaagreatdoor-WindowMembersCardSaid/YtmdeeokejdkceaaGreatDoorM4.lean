/-
  cmd.Owned; app (layer 28): a command applied.
-/
import Derived.Test.YtmdeeokejdkceaaGreatDoorM3
import Derived.Test.YtmdeeokejdkceaaGreatDoorM1
import Derived.Shelf.Slices.SearchI
import Derived.Shelf.Slices.Delete
import Derived.Shelf.Spec.SlicesInsert
import Derived.Shelf.Spec.SlicesInsertGrow
set_option linter.unusedSimpArgs false
set_option linter.unusedVariables false
namespace Go.Proofs.YtmdeeokejdkceaaGreatDoor
open Go.Vx Go.ChangeShapes Go.WideShapes Go.ChangeAt Go.RowKit
theorem ownB (k : Int) : decide (¬ band (cmdFields k).1 1 = 0) = decide (2 ≤ k ∧ k ≤ 5) := by
  rw [decide_eq_decide]
  unfold cmdFields
  by_cases h1 : k = 1 ∨ k = 6
  · rw [if_pos h1]; exact ⟨fun h => absurd band_0_1 h, fun h => absurd h (by omega)⟩
  rw [if_neg h1]
  by_cases h2 : k = 2
  · rw [if_pos h2]; exact ⟨fun _ => by omega, fun _ h => absurd (band_11_1.symm.trans h) (by decide)⟩
  rw [if_neg h2]
  by_cases h3 : k = 3 ∨ k = 4
  · rw [if_pos h3]; exact ⟨fun _ => by omega, fun _ h => absurd (band_3_1.symm.trans h) (by decide)⟩
  rw [if_neg h3]
  by_cases h4 : k = 5
  · rw [if_pos h4]; exact ⟨fun _ => by omega, fun _ h => absurd (band_15_1.symm.trans h) (by decide)⟩
  rw [if_neg h4]
  by_cases h5 : k = 7 ∨ k = 8
  · rw [if_pos h5]; exact ⟨fun h => absurd band_16_1 h, fun h => absurd h (by omega)⟩
  rw [if_neg h5]; exact ⟨fun h => absurd band_0_1 h, fun h => absurd h (by omega)⟩
theorem cmdOwned_s (G : GH) (c : Cm) : Con Tryz.prog 130 #[.agg c.cells.toArray] G [] (Just (.bool (decide (2 ≤ c.kind ∧ c.kind ≤ 5))) G) := by
  have q := fields_s G c.kind
  have hb := ownB c.kind
  apply Con.just
  obtain ⟨kind, client, seq, key, val, old, node⟩ := c
  simp only at *
  generalize cmdFields kind = f at *
  rw [← hb]
  (refine v_enter Tryz.func130 rfl Tryz.ntmps130 rfl ?_; intro B _)
  repeat' (first | (apply v_box (zs := Cm.cells ⟨kind, client, seq, key, val, old, node⟩); (case hx => rfl); (case hz => rfl); (case hd => rfl); intro b) | apply v_seq | apply v_region | apply v_nil | (apply v_pure; (case hop => first | (apply p_move <;> rfl) | (apply p_ne <;> rfl) | (apply p_assign <;> rfl) | (apply p_fieldAddrB <;> rfl) | (apply p_extract0 <;> rfl) | (apply p_extract1 <;> rfl) | (apply p_and64 <;> rfl) | fail); (case hd => rfl)) | (apply v_callJ (hs := q); (case ha => rfl); (case hd => rfl)) | (apply v_read; (case hop => (apply r_load1; rfl; (apply Cell.own; (case h => (repeat (exact mhd _))); rfl))); (case hd => rfl)) | fail)
  all_goals
    (refine v_ret [] (outsA1 rfl rfl) (by repeat (exact List.nil_sublist _)) ?_
     refine ⟨?_, rfl⟩
     (try simp only [dec_eq])
     first
       | rfl
       | (simp; done)
       | (simp_all; done))
def zeroSt : St := ⟨0, [], []⟩
theorem StV.zero (G : GH) : StV G zeroSt stZ := by
  refine ⟨none, 0, none, 0, rfl, ?_, ?_⟩
  · exact row_of_grow Pr.len (Grow.nil 144 3) (fun b o h => by cases h)
  · exact row_of_grow Ss.len (Grow.nil 146 8) (fun b o h => by cases h)
theorem StP.walk {s : St} (h : StP s) (hz : StZ s) : StW s := by
  obtain ⟨h1, h2⟩ := h
  obtain ⟨z1, z2, z3, z4⟩ := hz
  refine ⟨?_, z1, z3, ?_, riseG_pw.1 (adjS_rise h1.1), by omega⟩
  · rcases h2 with ⟨-, -, h⟩ | ⟨-, h⟩
    · exact riseG_pw.1 (adj_rise h.2.1)
    · exact riseG_pw.1 (adj_rise h.2.1)
  · intro x hx
    rcases h2 with ⟨-, -, h⟩ | ⟨-, h⟩
    · have := (h.2.2 x hx).2; omega
    · have := (h.2.2 x hx).2; omega
noncomputable def applyS (s : St) (c : Cm) : St × An × Int :=
  if cmdI c ≠ 0 then (zeroSt, zA, cmdI c)
  else if 2 ≤ c.kind ∧ c.kind ≤ 5 then ((clientS s c).1, (clientS s c).2, 0)
  else if c.kind = 6 ∧ s.schema = 1 then (upS s, zA, 0)
  else (s, zA, 0)
theorem TabsG.up {G G' : GH} (hle : GH.le G G') (h : TabsG G) : TabsG G' := fun w hw => h w fun b o hb => hw b o (hle b o hb)
theorem apply_s {G : GH} (hT : TabsG G) {s : St} {v : Value} (c : Cm) (hs : StV G s v) (hz : StZ s) (hok : StP s) (hc : c.ok) (hcw : CmW c) :
    Con Tryz.prog 71 #[v, .agg c.cells.toArray] G [] (fun r G' μ' => μ' = [] ∧ ∃ v', r = .tuple [v', .agg (applyS s c).2.1.cells.toArray, .int .i64 (applyS s c).2.2].toArray ∧ StV G' (applyS s c).1 v') := by
  have qk := migCheck_s hT hs hz
  rw [if_pos hok] at qk
  have qc := cmdCheck_s hT c hc
  obtain ⟨A, c0, A', c', rfl, hp, hss⟩ := id hs
  have hw := hok.walk hz
  unfold applyS
  have hcl := fun G' v' (h : StV G' s v') => client_s c h hw hcw
  have hcn := fun G' v' (h : StV G' s v') => migClone_s (G := G') h (by have := hz.2.2.1; omega) (by have := hz.2.2.2; omega)
  have hu1 := fun G' (hT : TabsG G') v' (h : StV G' s v') => migUp1_s hT h hz hok
  have hu2 := fun G' (hT : TabsG G') v' (h : StV G' s v') => migUp2_s hT h hz hok
  have how := fun G' => cmdOwned_s G' c
  obtain ⟨kind, cl, seq, key, val, old, node⟩ := c
  generalize cmdI ⟨kind, cl, seq, key, val, old, node⟩ = ci at *
  generalize clientS s ⟨kind, cl, seq, key, val, old, node⟩ = cs at *
  simp only at *
  (refine v_enter Tryz.func71 rfl Tryz.ntmps71 rfl ?_; intro B _)
  repeat' (first | (apply v_box (d := 2) (zs := [.int .i64 s.schema, .slice A s.pairs.length c0, .slice A' s.sess.length c']); (case hx => rfl); (case hz => rfl); (case hd => rfl); intro b2) | (apply v_box (d := 3) (zs := (Cm.cells ⟨kind, cl, seq, key, val, old, node⟩)); (case hx => rfl); (case hz => rfl); (case hd => rfl); intro b3) | (apply v_alloc (d := 4); (case hz => rfl); (case hd => rfl); intro b4) | (apply v_alloc (d := 5); (case hz => rfl); (case hd => rfl); intro b5) | (apply v_read; (case hop => (apply r_loadNo; (case hx => rfl); (case h => repeat (first | exact mhd _ | apply mtl)); (case hd => rfl); (case hn => rfl))); (case hd => rfl)) | apply v_seq | apply v_region | apply v_nil | apply v_skip | (apply v_pure; (case hop => first | (apply p_move <;> rfl) | (apply p_nes <;> rfl) | (apply p_assign <;> rfl) | fail); (case hd => rfl)) | (apply v_condF; (case hc => rfl)) | (apply v_callJ (hs := qk); (case ha => rfl); (case hd => rfl)) | fail)
  refine v_call (μ1 := []) rfl qc (List.Perm.refl _) rfl ?_
  rintro _ G1 _ hle1 ⟨rfl, rfl⟩
  have hT1 := hT.up hle1
  by_cases hci : ci = 0
  · rw [if_neg (by simp [hci])]
    subst hci
    repeat' (first | (apply v_read; (case hop => (apply r_loadNo; (case hx => rfl); (case h => repeat (first | exact mhd _ | apply mtl)); (case hd => rfl); (case hn => rfl))); (case hd => rfl)) | apply v_seq | apply v_region | apply v_nil | apply v_skip | (apply v_pure; (case hop => first | (apply p_move <;> rfl) | (apply p_nes <;> rfl) | (apply p_assign <;> rfl) | fail); (case hd => rfl)) | (apply v_condF; (case hc => rfl)) | fail)
    refine v_call (μ1 := []) rfl (hcn G1 _ (hs.up hle1)) (List.Perm.refl _) rfl ?_
    rintro _ G2 ν2 - ⟨hG2, bp, bs, rfl, rfl⟩
    subst hG2
    refine v_frz [(bs, .cells (rowC Ss.cells s.sess).toArray 146 (0, 0)), (bp, .cells (rowC Pr.cells s.pairs).toArray 144 (0, 0))] (PickA.here _) ?_
    intro G3 hle3 hG3
    have hs3 : StV G3 s _ := StV.made (s := s) (bp := bp) (bs := bs) (by have := hz.2.2.1; omega) (by have := hz.2.2.2; omega) (hG3 _ _ (by (repeat (first | exact mhd _ | apply mtl)))) (hG3 _ _ (by (repeat (exact mhd _))))
    have hT3 := hT1.up hle3
    have how3 := how G3
    repeat' (first | (apply v_read; (case hop => (apply r_loadNo; (case hx => rfl); (case h => repeat (first | exact mhd _ | apply mtl)); (case hd => rfl); (case hn => rfl))); (case hd => rfl)) | apply v_seq | apply v_region | apply v_nil | apply v_skip | (apply v_cond; (case hc => rfl); all_goals (intro h; (try simp only [reduceCtorEq, zzz] at h))) | (apply v_callJ (hs := how3); (case ha => rfl); (case hd => rfl)) | (apply v_store; (case hp => rfl); (case hx => rfl); (case hc => rfl); (case hsz => rfl); (case h1 => rfl); (case hb => (repeat (first | exact mhd _ | apply mtl))); (case hfit => exact nle rfl); (case hov => ((repeat (first | with_reducible exact ov_nil | apply ov_cons)); done)); (case hu => repeat (first | exact Upd.here _ _ | apply Upd.there))) | fail)
    · rw [if_pos (by assumption)]
      refine v_call (μ1 := []) rfl (hcl G3 _ hs3) (List.Perm.refl _) rfl ?_
      obtain ⟨cs1, ⟨ac, aq, ae, af, av, ar⟩⟩ := cs
      rintro _ G4 _ - ⟨hle4, rfl, v4, rfl, hs4⟩
      obtain ⟨A4, c4, A4', c4', rfl, -, -⟩ := id hs4
      repeat' (first | (apply v_alloc (d := 9); (case hz => rfl); (case hd => rfl); intro b9) | (apply v_alloc (d := 10); (case hz => rfl); (case hd => rfl); intro b10) | apply v_seq | apply v_nil | (apply v_pure; (case hop => first | (apply p_move <;> rfl) | (apply p_extract0 <;> rfl) | (apply p_extract1 <;> rfl) | fail); (case hd => rfl)) | (apply v_store; (case hp => rfl); (case hx => rfl); (case hc => rfl); (case hsz => rfl); (case h1 => rfl); (case hb => (repeat (first | exact mhd _ | apply mtl))); (case hfit => exact nle rfl); (case hov => ((repeat (first | with_reducible exact ov_nil | apply ov_cons)); done)); (case hu => repeat (first | exact Upd.here _ _ | apply Upd.there))) | fail)
      refine d_start [(b9, .cells [.int .i64 cs1.schema, .slice A4 cs1.pairs.length c4, .slice A4' cs1.sess.length c4'].toArray 32 (0, 0)), (b10, .cells [.int .i64 ac, .int .i64 aq, .int .i64 ae, .bool af, .string av, .int .i64 ar].toArray 40 (0, 0))] (by kernel_rfl) (by kernel_rfl) (by kernel_rfl) (by intro e he; (simp only [List.mem_cons, List.not_mem_nil, or_false] at he; rcases he with rfl | rfl <;> simp; done)) ?_
      all_goals (apply dtk 0; (case hi => rfl); (case hop => first | (apply r_loadNo; (case hx => rfl); (case h => (repeat (exact mhd _))); (case hd => (repeat (first | with_reducible exact dt_nil | apply dt_here))); (case hn => rfl)) | (apply r_load1; rfl; (apply Cell.own; (case h => (repeat (fail))); rfl)) | (apply r_loadN; rfl; (apply CellsAt.own; (case h => (repeat (fail)))); rfl)); (case hq => kernel_rfl))
      all_goals (apply dtk 1; (case hi => rfl); (case hop => first | (apply r_loadNo; (case hx => rfl); (case h => (repeat (first | exact mhd _ | apply mtl))); (case hd => (repeat (first | with_reducible exact dt_nil | apply dt_here))); (case hn => rfl)) | (apply r_load1; rfl; (apply Cell.own; (case h => (repeat (fail))); rfl)) | (apply r_loadN; rfl; (apply CellsAt.own; (case h => (repeat (fail)))); rfl)); (case hq => kernel_rfl))
      all_goals (apply d_store 2; (case hi => rfl); (case hr => kernel_rfl); (case hL => infer_instance); (case hp => rfl); (case hx => rfl); (case hc => rfl); (case hsz => rfl); (case h1 => rfl); (case hb => (repeat (first | exact mhd _ | apply mtl))); (case hfit => exact nle rfl); (case hov => ((repeat (first | with_reducible exact ov_nil | apply ov_cons)); done)); (case hu => repeat (first | exact Upd.here _ _ | apply Upd.there)); (case hν' => intro e he; (simp only [List.mem_cons, List.not_mem_nil, or_false] at he; rcases he with rfl | rfl <;> simp; done)))
      all_goals (apply d_store 3; (case hi => rfl); (case hr => kernel_rfl); (case hL => infer_instance); (case hp => rfl); (case hx => rfl); (case hc => rfl); (case hsz => rfl); (case h1 => rfl); (case hb => (repeat (first | exact mhd _ | apply mtl))); (case hfit => exact nle rfl); (case hov => ((repeat (first | with_reducible exact ov_nil | apply ov_cons)); done)); (case hu => repeat (first | exact Upd.here _ _ | apply Upd.there)); (case hν' => intro e he; (simp only [List.mem_cons, List.not_mem_nil, or_false] at he; rcases he with rfl | rfl <;> simp; done)))
      all_goals (apply dtk 4; (case hi => rfl); (case hop => (apply prd; apply p_assign <;> rfl)); (case hq => kernel_rfl))
      all_goals (apply d_done; (case hr => kernel_rfl))
      repeat' (fail)
      refine v_retM [] (outsM_cct (sz0 := 3) (vs0 := [.int .i64 cs1.schema, .slice A4 cs1.pairs.length c4, .slice A4' cs1.sess.length c4']) (e0 := 32) (sz1 := 6) (vs1 := [.int .i64 ac, .int .i64 aq, .int .i64 ae, .bool af, .string av, .int .i64 ar]) (e1 := 40) rfl rfl (by repeat (first | exact mhd _ | apply mtl)) rfl rfl (by repeat (first | exact mhd _ | apply mtl)) rfl rfl) (List.nil_sublist _) ⟨rfl, _, rfl, hs4⟩
    · rw [if_neg (by assumption)]
      by_cases h1 : s.schema = 1
      · refine v_call (μ1 := []) rfl (hu1 G3 hT3 _ hs3 h1) (List.Perm.refl _) rfl ?_
        rintro _ G4 ν4 - ⟨hG4, bp', bs', rfl, rfl⟩
        subst hG4
        refine v_frz [(bs', .cells (rowC Ss.cells s.sess).toArray 146 (0, 0)), (bp', .cells (rowC Pr.cells (upS s).pairs).toArray 144 (0, 0))] (PickA.here _) ?_
        intro G5 hle5 hG5
        have el : (upS s).pairs.length = s.pairs.length := List.length_map ..
        have hs5 := StV.made (G' := G5) (s := upS s) (bp := bp') (bs := bs') (by rw [el]; have := hz.2.2.1; omega) (by have := hz.2.2.2; show s.sess.length ≤ 200; omega) (hG5 _ _ (by (repeat (first | exact mhd _ | apply mtl)))) (hG5 _ _ (by (repeat (exact mhd _))))
        rw [el] at hs5
        have hs3' := hs3.up hle5
        repeat' (first | (apply v_alloc (d := 11); (case hz => rfl); (case hd => rfl); intro b11) | (apply v_read; (case hop => (apply r_loadNo; (case hx => rfl); (case h => repeat (first | exact mhd _ | apply mtl)); (case hd => rfl); (case hn => rfl))); (case hd => rfl)) | apply v_seq | apply v_region | apply v_nil | apply v_skip | (apply v_take; (case hg => rfl)) | (apply v_pass; (case hg => rfl); (case hn => rfl); (case hd => rfl)) | (apply v_pure; (case hop => first | (apply p_move <;> rfl) | (apply p_eqs <;> rfl) | (apply p_eq <;> rfl) | (apply p_assign <;> rfl) | (apply p_pickT <;> rfl) | (apply p_pickF <;> rfl) | (apply p_fieldAddrB <;> rfl) | (apply p_extract0 <;> rfl) | (apply p_extract1 <;> rfl) | (apply p_build; (case hz => rfl); (case hv => (simp only [List.map_cons, List.map_nil]; repeat (with_reducible exact evs_nil))); (case hb => (apply bldL; repeat (exact bld_nil)))) | fail); (case hd => rfl)) | (apply v_condT; (case hc => rfl)) | (apply v_condF; (case hc => rfl)) | (apply v_guardB; (case h1 => rfl); (case h2 => rfl); all_goals (intro h; (try simp only [reduceCtorEq, zzz] at h))) | (apply v_read; (case hop => (apply r_load1; rfl; (apply Cell.own; (case h => (repeat (first | exact mhd _ | apply mtl))); rfl))); (case hd => rfl)) | (apply v_store; (case hp => rfl); (case hx => rfl); (case hc => rfl); (case hsz => rfl); (case h1 => rfl); (case hb => (repeat (first | exact mhd _ | apply mtl))); (case hfit => exact nle rfl); (case hov => (first | ((repeat (first | with_reducible exact ov_nil | apply ov_cons)); done) | rfl)); (case hu => repeat (first | exact Upd.here _ _ | apply Upd.there))) | fail)
        · rw [if_pos ⟨by assumption, h1⟩]
          refine v_retM [] (outsM_cct (sz0 := 3) (vs0 := [.int .i64 2, .slice (some ⟨bp', 0, none⟩) s.pairs.length s.pairs.length, .slice (some ⟨bs', 0, none⟩) s.sess.length s.sess.length]) (e0 := 32) (sz1 := 6) (vs1 := zA.cells) (e1 := 40) rfl rfl (by repeat (first | exact mhd _ | apply mtl)) rfl rfl (by repeat (first | exact mhd _ | apply mtl)) rfl rfl) (List.nil_sublist _) ⟨rfl, _, rfl, hs5⟩
        · rw [if_neg (fun h => absurd h.1 (by assumption))]
          refine v_retM [] (outsM_cct (sz0 := 3) (vs0 := [.int .i64 s.schema, .slice (some ⟨bp, 0, none⟩) s.pairs.length s.pairs.length, .slice (some ⟨bs, 0, none⟩) s.sess.length s.sess.length]) (e0 := 32) (sz1 := 6) (vs1 := zA.cells) (e1 := 40) rfl rfl (by repeat (first | exact mhd _ | apply mtl)) rfl rfl (by repeat (first | exact mhd _ | apply mtl)) rfl rfl) (List.nil_sublist _) ⟨rfl, _, rfl, hs3'⟩
      · rw [if_neg (fun h => h1 h.2)]
        have h2 : s.schema = 2 := by
          rcases hok.2 with h | h
          · exact absurd h.1 h1
          · exact h.1
        refine v_call (μ1 := []) rfl (hu2 G3 hT3 _ hs3 h2) (List.Perm.refl _) rfl ?_
        rintro _ G4 ν4 - ⟨rfl, hG4, rfl⟩
        try subst hG4
        repeat' (first | (apply v_alloc (d := 11); (case hz => rfl); (case hd => rfl); intro b11) | (apply v_read; (case hop => (apply r_loadNo; (case hx => rfl); (case h => repeat (first | exact mhd _ | apply mtl)); (case hd => rfl); (case hn => rfl))); (case hd => rfl)) | apply v_seq | apply v_region | apply v_nil | apply v_skip | (apply v_take; (case hg => rfl)) | (apply v_pass; (case hg => rfl); (case hn => rfl); (case hd => rfl)) | (apply v_pure; (case hop => first | (apply p_move <;> rfl) | (apply p_eq <;> rfl) | (apply p_assign <;> rfl) | (apply p_pickT <;> rfl) | (apply p_pickF <;> rfl) | (apply p_fieldAddrB <;> rfl) | (apply p_extract0 <;> rfl) | (apply p_extract1 <;> rfl) | (apply p_build; (case hz => rfl); (case hv => (simp only [List.map_cons, List.map_nil]; repeat (with_reducible exact evs_nil))); (case hb => (apply bldL; repeat (exact bld_nil)))) | fail); (case hd => rfl)) | (apply v_condF; (case hc => rfl)) | (apply v_cond; (case hc => rfl); all_goals (intro h; (try simp only [reduceCtorEq, zzz] at h); first | (exfalso; omega) | skip)) | (apply v_guardB; (case h1 => rfl); (case h2 => rfl); all_goals (intro h; (try simp only [reduceCtorEq, zzz] at h))) | (apply v_read; (case hop => (apply r_load1; rfl; (apply Cell.own; (case h => (repeat (first | exact mhd _ | apply mtl))); rfl))); (case hd => rfl)) | (apply v_store; (case hp => rfl); (case hx => rfl); (case hc => rfl); (case hsz => rfl); (case h1 => rfl); (case hb => (repeat (first | exact mhd _ | apply mtl))); (case hfit => exact nle rfl); (case hov => (first | ((repeat (first | with_reducible exact ov_nil | apply ov_cons)); done) | rfl)); (case hu => repeat (first | exact Upd.here _ _ | apply Upd.there))) | fail)
        all_goals
          refine v_retM [] (outsM_cct (sz0 := 3) (vs0 := [.int .i64 s.schema, .slice (some ⟨bp, 0, none⟩) s.pairs.length s.pairs.length, .slice (some ⟨bs, 0, none⟩) s.sess.length s.sess.length]) (e0 := 32) (sz1 := 6) (vs1 := zA.cells) (e1 := 40) rfl rfl (by repeat (first | exact mhd _ | apply mtl)) rfl rfl (by repeat (first | exact mhd _ | apply mtl)) rfl rfl) (List.nil_sublist _) ⟨rfl, _, rfl, hs3⟩
  · rw [if_pos (by simp [hci])]
    repeat' (first | apply v_seq | apply v_region | apply v_nil | (apply v_pure; (case hop => first | (apply p_move <;> rfl) | (apply p_ne <;> rfl) | (apply p_assign <;> rfl) | (apply p_build; (case hz => rfl); (case hv => (simp only [List.map_cons, List.map_nil]; repeat (with_reducible exact evs_nil))); (case hb => (apply bldL; repeat (exact bld_nil)))) | fail); (case hd => rfl)) | (apply v_cond; (case hc => rfl); all_goals (intro h; (try simp only [reduceCtorEq, zzz] at h); first | (exfalso; omega) | skip)) | (apply v_store; (case hp => rfl); (case hx => rfl); (case hc => rfl); (case hsz => rfl); (case h1 => rfl); (case hb => (repeat (first | exact mhd _ | apply mtl))); (case hfit => exact nle rfl); (case hov => ((repeat (first | with_reducible exact ov_nil | apply ov_cons)); done)); (case hu => repeat (first | exact Upd.here _ _ | apply Upd.there))) | fail)
    refine v_retM [] (outsM_cct (sz0 := 3) (vs0 := [.int .i64 0, .slice none 0 0, .slice none 0 0]) (e0 := 32) (sz1 := 6) (vs1 := zA.cells) (e1 := 40) rfl rfl (by repeat (first | exact mhd _ | apply mtl)) rfl rfl (by repeat (exact mhd _)) rfl rfl) (List.nil_sublist _) ⟨rfl, _, rfl, StV.zero _⟩
def RevOk (z : Int) (x : Pr) : Prop := (z = 1 ∧ x.rev = 0) ∨ (z = 2 ∧ 1 ≤ x.rev ∧ x.rev ≤ 4294967296)
def PsOk (z : Int) (l : List Pr) : Prop := l.length ≤ 64 ∧ RiseW ksP l ∧ ∀ x ∈ l, PrOk x ∧ RevOk z x
theorem stP_iff {s : St} : StP s ↔ SesP s.sess ∧ (s.schema = 1 ∨ s.schema = 2) ∧ PsOk s.schema s.pairs ∧ (s.schema = 1 → s.sess.any revS = false) := by
  obtain ⟨z, lp, ls⟩ := s
  unfold StP PsOk OneP TwoP
  simp only
  constructor
  · rintro ⟨h1, ⟨rfl, h2, h3, h4, h5⟩ | ⟨rfl, h3, h4, h5⟩⟩
    · exact ⟨h1, .inl rfl, ⟨h3, riseG_pw.1 (adj_rise h4), fun x hx => ⟨(h5 x hx).1, .inl ⟨rfl, (h5 x hx).2⟩⟩⟩, fun _ => h2⟩
    · exact ⟨h1, .inr rfl, ⟨h3, riseG_pw.1 (adj_rise h4), fun x hx => ⟨(h5 x hx).1, .inr ⟨rfl, (h5 x hx).2⟩⟩⟩, fun h => absurd h (by omega)⟩
  · rintro ⟨h1, rfl | rfl, ⟨h3, h4, h5⟩, h2⟩
    · refine ⟨h1, .inl ⟨rfl, h2 rfl, h3, rise_adj (riseG_pw.2 h4), fun x hx => ⟨(h5 x hx).1, ?_⟩⟩⟩
      rcases (h5 x hx).2 with h | h
      · exact h.2
      · exact absurd h.1 (by omega)
    · refine ⟨h1, .inr ⟨rfl, h3, rise_adj (riseG_pw.2 h4), fun x hx => ⟨(h5 x hx).1, ?_⟩⟩⟩
      rcases (h5 x hx).2 with h | h
      · exact absurd h.1 (by omega)
      · exact h.2
theorem keyB_size {s : ByteArray} (h : keyB s = true) : s.size ≤ 24 := by
  unfold keyB at h
  simp only [Bool.and_eq_true, decide_eq_true_eq] at h
  exact h.1.2
theorem valB_size {s : ByteArray} (h : valB s = true) : s.size ≤ 48 := by
  unfold valB at h
  simp only [Bool.and_eq_true, decide_eq_true_eq] at h
  exact h.1.1
theorem valB_empty : valB ByteArray.empty = true := by
  unfold valB
  have h0 : ByteArray.empty.size = 0 := rfl
  simp only [Bool.and_eq_true, decide_eq_true_eq, h0]
  refine ⟨⟨by omega, by unfold badR; omega⟩, fun i hi => by omega⟩
theorem ses_few : ∀ (l : List Ss) (a : Int), RiseW ksS l → (∀ x ∈ l, a ≤ x.client ∧ x.client ≤ 8) → a ≤ 9 → (l.length : Int) ≤ 9 - a
  | [], a, _, _, ha => by simp; omega
  | x :: l, a, h, hx, ha => by
    have h1 := List.pairwise_cons.1 h
    have h2 := hx x List.mem_cons_self
    have := ses_few l (x.client + 1) h1.2 (fun y hy => ⟨by have := h1.1 y hy; simp only [ksS] at this; omega, (hx y (List.mem_cons_of_mem _ hy)).2⟩) (by omega)
    simp only [List.length_cons]
    omega
theorem sesP_few {l : List Ss} (h : SesP l) : l.length ≤ 8 := by
  have := ses_few l 1 (riseG_pw.1 (adjS_rise h.1)) (fun x hx => by
    obtain ⟨h1, h2, h3⟩ := h.2 x hx
    have h4 := (ansI_zero.1 h3).1.1
    omega) (by omega)
  omega
theorem StP.small {s : St} (h : StP s) : StZ s := by
  obtain ⟨h1, h2, ⟨h3, h4, h5⟩, h6⟩ := stP_iff.1 h
  refine ⟨fun x hx => ?_, fun x hx => ?_, by omega, by have := sesP_few h1; omega⟩
  · have := (h5 x hx).1
    have a := keyB_size this.1
    have b := valB_size this.2
    omega
  · have := valB_size (ansI_zero.1 (h1.2 x hx).2.2).2
    omega
theorem withG_ok {z : Int} {l : List Pr} {p : Pr} (h : PsOk z l) (hp : PrOk p) (hr : RevOk z p) (hroom : roomB l (kn p.key) = true) : PsOk z (withG ksP l p) := by
  obtain ⟨h1, h2, h3⟩ := h
  refine ⟨?_, withG_rise h2 p, fun x hx => ?_⟩
  · rw [withG_len h2]
    unfold roomB at hroom
    rw [Bool.or_eq_true, decide_eq_true_eq] at hroom
    split
    · exact h1
    · rename_i hn
      rcases hroom with h | h
      · exact absurd h hn
      · omega
  · rcases withG_mem hx with rfl | hx
    · exact ⟨hp, hr⟩
    · exact h3 x hx
theorem filter_ok {z : Int} {l : List Pr} (f : Pr → Bool) (h : PsOk z l) : PsOk z (l.filter f) :=
  ⟨Nat.le_trans (List.length_filter_le _ _) h.1, h.2.1.sublist List.filter_sublist, fun x hx => h.2.2 x (List.mem_filter.1 hx).1⟩
theorem findP_val {z : Int} {l : List Pr} (h : PsOk z l) (n : Int) : valB (findP l n).val = true ∧ 0 ≤ (findP l n).rev ∧ (findP l n).rev ≤ 4294967296 := by
  unfold findP
  split
  · have := h.2.2 _ (List.getElem_mem (hitG_lt (by assumption)))
    refine ⟨this.1.2, ?_⟩
    rcases this.2 with h | h <;> omega
  · exact ⟨valB_empty, by decide, by decide⟩
def AnOk (z : Int) (c : Cm) (a : An) : Prop := a.client = c.client ∧ a.seq = c.seq ∧ (0 ≤ a.err ∧ a.err ≤ 17) ∧ (0 ≤ a.rev ∧ a.rev ≤ 4294967296) ∧ valB a.val = true ∧ (z = 1 → a.rev = 0)
theorem nextR_le {r : Int} (h : 0 ≤ r) : 1 ≤ nextR r ∧ nextR r ≤ 4294967296 := by unfold nextR; omega
theorem doOne_an {z : Int} {l : List Pr} (c : Cm) (h : PsOk z l) : AnOk z c (doOne l c).2 ∧ (doOne l c).2.rev = 0 := by
  have hf := (findP_val h (kn c.key)).1
  unfold doOne AnOk ans0
  (repeat' split) <;> (refine ⟨⟨rfl, rfl, by simp, by simp, ?_, fun _ => rfl⟩, rfl⟩; first | exact hf | exact valB_empty)
theorem doOne_ok {l : List Pr} (c : Cm) (h : PsOk 1 l) (hk : keyB c.key = true) (hv : c.kind = 2 → valB c.val = true) : PsOk 1 (doOne l c).1 := by
  unfold doOne
  split
  · split
    · exact withG_ok h ⟨hk, hv (by assumption)⟩ (.inl ⟨rfl, rfl⟩) (by assumption)
    · exact h
  · split
    · exact h
    · split
      · exact filter_ok _ h
      · exact h
theorem room_of_hit {l : List Pr} {n : Int} (h : hitG ksP l n = true) : roomB l n = true := by unfold roomB; rw [h]; rfl
theorem doTwo_ok {l : List Pr} (c : Cm) (h : PsOk 2 l) (hk : keyB c.key = true) (hv : c.kind = 2 ∨ c.kind = 5 → valB c.val = true) : PsOk 2 (doTwo l c).1 := by
  have hf := findP_val h (kn c.key)
  have hn := nextR_le hf.2.1
  unfold doTwo
  split
  · unfold casP
    split
    · exact h
    · rename_i h5 hh
      split
      · exact withG_ok h ⟨hk, hv (by omega)⟩ (.inr ⟨rfl, hn⟩) (room_of_hit (by simpa using hh))
      · exact h
  · split
    · rename_i h5 hc
      unfold doOne at hc ⊢
      rw [if_pos hc.1] at hc ⊢
      split
      · simp only
        rw [withG_twice (by rfl)]
        exact withG_ok h ⟨hk, hv (by omega)⟩ (.inr ⟨rfl, hn⟩) (by assumption)
      · rename_i hr
        rw [if_neg hr] at hc
        exact absurd hc.2 (by simp)
    · rename_i h5 hc
      unfold doOne at hc ⊢
      split
      · rename_i h2
        rw [if_pos h2] at hc
        split
        · rename_i hr
          rw [if_pos hr] at hc
          exact absurd ⟨h2, rfl⟩ hc
        · exact h
      · split
        · exact h
        · split
          · exact filter_ok _ h
          · exact h
theorem doTwo_an {l : List Pr} (c : Cm) (h : PsOk 2 l) : AnOk 2 c (doTwo l c).2 := by
  have hf := findP_val h (kn c.key)
  have hn := nextR_le hf.2.1
  have ho := (doOne_an c h).1
  unfold doTwo
  split
  · unfold casP AnOk ans0
    (repeat' split) <;> (refine ⟨rfl, rfl, by simp, ?_, ?_, fun h => absurd h (by omega)⟩ <;> first | exact hf.1 | exact valB_empty | (simp; done) | (simp; omega) | fail)
  · split
    · exact ho
    · exact ho
theorem doS_ok {z : Int} {l : List Pr} (c : Cm) (hz : z = 1 ∨ z = 2) (h : PsOk z l) (hk : keyB c.key = true) (hv : c.kind = 2 ∨ c.kind = 5 → valB c.val = true) : PsOk z (doS z l c).1 ∧ AnOk z c (doS z l c).2 := by
  unfold doS
  rcases hz with rfl | rfl
  · rw [if_pos rfl]
    exact ⟨doOne_ok c h hk (fun h => hv (.inl h)), (doOne_an c h).1⟩
  · rw [if_neg (by omega)]
    exact ⟨doTwo_ok c h hk hv, doTwo_an c h⟩
theorem sesAt_mem {l : List Ss} {n : Int} (hr : RiseW ksS l) (h : hitG ksS l n = true) : sesAt l n ∈ l ∧ (sesAt l n).client = n := by
  rcases hit_parts hr n with ⟨hlt, h1, h2, -⟩ | ⟨h1, -, -⟩
  · unfold sesAt
    rw [dif_pos h]
    exact ⟨List.getElem_mem _, h2⟩
  · rw [h1] at h; cases h
theorem withS_ok {l : List Ss} {a : An} (h : SesP l) (ha : ansI a = 0) : SesP (withG ksS l (sesOf a)) := by
  refine ⟨rise_adjS (riseG_pw.2 (withG_rise (riseG_pw.1 (adjS_rise h.1)) _)), fun x hx => ?_⟩
  rcases withG_mem hx with rfl | hx
  · exact ⟨rfl, rfl, ha⟩
  · exact h.2 x hx
theorem anOk_ans {z : Int} {c : Cm} {a : An} (h : AnOk z c a) (h1 : 1 ≤ c.client ∧ c.client ≤ 8) (h2 : 1 ≤ c.seq ∧ c.seq ≤ 4294967296) : ansI a = 0 := by
  obtain ⟨e1, e2, e3, e4, e5, e6⟩ := h
  exact ansI_zero.2 ⟨⟨by rw [e1]; exact h1, by rw [e2]; exact h2, e3, e4⟩, e5⟩
theorem cmd_ok {c : Cm} (h : cmdI c = 0) : (1 ≤ c.kind ∧ c.kind ≤ 8) ∧ ((2 ≤ c.kind ∧ c.kind ≤ 5) → (1 ≤ c.client ∧ c.client ≤ 8) ∧ (1 ≤ c.seq ∧ c.seq ≤ 4294967296) ∧ keyB c.key = true) ∧ (c.kind = 2 ∨ c.kind = 5 → valB c.val = true) := by
  rw [cmdI_eq] at h
  unfold cmdE at h
  split at h
  · exact absurd h (by omega)
  split at h
  · exact absurd h (by omega)
  split at h
  · exact absurd h (by omega)
  rename_i h1 h2 h3
  refine ⟨by omega, fun ho => ⟨by omega, by omega, ?_⟩, fun hk => ?_⟩
  · cases hb : keyB c.key with
    | true => rfl
    | false => exact absurd (.inl ⟨ho, hb⟩) h3
  · cases hb : valB c.val with
    | true => rfl
    | false => exact absurd (.inr (.inl ⟨hk, hb⟩)) h3
theorem which_ok {l : List Ss} (h : SesP l) {n q : Int} (hw : (whichS l n q).1 = 1) : ∃ x ∈ l, x.client = n ∧ x.seq = q ∧ (whichS l n q).2 = x.last ∧ SsOk x := by
  unfold whichS at hw ⊢
  split at hw
  · exact absurd hw (by simp)
  split at hw
  · exact absurd hw (by simp)
  split at hw
  · rename_i h1 h2 h3
    have hm := sesAt_mem (riseG_pw.1 (adjS_rise h.1)) (by simpa using h1)
    rw [if_neg h1, if_neg h2, if_pos h3]
    exact ⟨_, hm.1, hm.2, h3.symm, rfl, h.2 _ hm.1⟩
  · exact absurd hw (by simp)
theorem clientS_ok {s : St} {c : Cm} (h : StP s) (hc : cmdI c = 0) (ho : 2 ≤ c.kind ∧ c.kind ≤ 5) : StP (clientS s c).1 ∧ ansI (clientS s c).2 = 0 ∧ (clientS s c).2.client = c.client ∧ (clientS s c).2.seq = c.seq := by
  obtain ⟨h1, h2, h3, h4⟩ := stP_iff.1 h
  obtain ⟨c1, c2, c3⟩ := cmd_ok hc
  obtain ⟨c4, c5, c6⟩ := c2 ho
  unfold clientS
  split
  · rename_i hw
    obtain ⟨x, hx, e1, e2, e3, e4, e5, e6⟩ := which_ok h1 hw
    rw [e3]
    exact ⟨h, e6, e4.trans e1, e5.trans e2⟩
  split
  · exact ⟨h, anOk_ans (z := 2) (c := c) ⟨rfl, rfl, by simp, by simp [ans0], valB_empty, fun h => absurd h (by omega)⟩ c4 c5, rfl, rfl⟩
  split
  · have hd := doS_ok c h2 h3 c6 c3
    have ha := anOk_ans hd.2 c4 c5
    refine ⟨stP_iff.2 ⟨withS_ok h1 ha, h2, hd.1, fun hz => ?_⟩, ha, hd.2.1, hd.2.2.1⟩
    rw [List.any_eq_false]
    intro x hx
    rcases withG_mem hx with rfl | hx
    · have := hd.2.2.2.2.2.2 hz
      unfold revS
      rw [decide_eq_false (by simpa [sesOf] using this)]
      simp
    · exact List.any_eq_false.1 (h4 hz) x hx
  · exact ⟨h, anOk_ans (z := 2) (c := c) ⟨rfl, rfl, by simp, by simp [ans0], valB_empty, fun h => absurd h (by omega)⟩ c4 c5, rfl, rfl⟩
theorem upS_ok {s : St} (h : StP s) (h1 : s.schema = 1) : StP (upS s) := by
  obtain ⟨h1, h2, ⟨h3, h4, h5⟩, h6⟩ := stP_iff.1 h
  refine stP_iff.2 ⟨h1, .inr rfl, ⟨?_, ?_, ?_⟩, fun hz => absurd (show (2 : Int) = 1 from hz) (by omega)⟩
  · show (s.pairs.map (revOf 1)).length ≤ 64
    rw [List.length_map]; exact h3
  · show RiseW ksP (s.pairs.map (revOf 1))
    exact List.pairwise_map.2 h4
  · intro x hx
    obtain ⟨y, hy, rfl⟩ := List.mem_map.1 hx
    exact ⟨(h5 y hy).1, .inr ⟨rfl, by simp [revOf], by simp [revOf]⟩⟩
theorem applyS_ok {s : St} {c : Cm} (h : StP s) (he : (applyS s c).2.2 = 0) : StP (applyS s c).1 ∧ cmdI c = 0 := by
  unfold applyS at he ⊢
  by_cases hc : cmdI c = 0
  · refine ⟨?_, hc⟩
    rw [if_neg (by simp [hc])]
    split
    · exact (clientS_ok h hc (by assumption)).1
    · split
      · rename_i h1
        exact upS_ok h h1.2
      · exact h
  · rw [if_pos hc] at he
    exact absurd he hc
abbrev Cms (G : GH) (v : Value) (l : List Cm) : Prop := Sl G 7 (RowR Cm.cells) v l
theorem Cm.len (x : Cm) : x.cells.length = 7 := rfl
noncomputable instance (l : List Pr) : Decidable (AdjP l) := Classical.propDecidable _
noncomputable instance (l : List Ss) : Decidable (AdjS l) := Classical.propDecidable _
theorem refPRise_s {G : GH} {l : List Pr} {sv : Value} (hs : Prs G sv l) (hz : Sized l) : Con Tryz.prog 214 #[sv] G [] (Just (.bool (decide (AdjP l))) G) := by
  obtain ⟨A, c, rfl, hlc, hcm, hsome, hcp⟩ := rowOpen hs
  simp only [maxLen] at hcm
  apply Con.just
  (refine v_enter Tryz.func214 rfl Tryz.ntmps214 rfl ?_; intro B _)
  repeat' (first | apply v_seq | apply v_region | apply v_nil | apply v_block | (apply v_pure; (case hop => (apply p_assign <;> rfl)); (case hd => rfl)) | fail)
  refine v_loop [3, 0] (fun us G' μ' => G' = G ∧ μ' = [] ∧ ∃ k : Nat, 1 ≤ k ∧ us = [Value.int .i64 (k : Nat), .slice A l.length c] ∧ ∀ i (h : i < l.length) (h0 : 0 < i), i < k → ksP (l[i - 1]'(by omega)) < ksP l[i]) (fun us => l.length - (headI us).toNat) rfl ⟨rfl, rfl, 1, by omega, rfl, by omega⟩ ?_
  rintro us G' _ ⟨rfl, rfl, k, hk, rfl, hno⟩
  by_cases hlt : k < l.length
  · have e1 : ((k : Nat) : Int).toNat = k := by omega
    have e2 : (((k : Nat) : Int) - 1).toNat = k - 1 := by omega
    have hA := hsome (by omega)
    have hck := (hcp k hlt).cell (j := 0) rfl
    have hpk := (hcp (k - 1) (by omega)).cell (j := 0) rfl
    have hz1 := (hz _ (List.getElem_mem hlt)).1
    have hz2 := (hz _ (List.getElem_mem (show k - 1 < l.length by omega))).1
    have hin : AdjP l → kn (l[k - 1]'(by omega)).key < kn (l[k]).key := fun h => h k hlt hk
    have hnx : kn (l[k - 1]'(by omega)).key < kn (l[k]).key → ∀ i (h : i < l.length) (h0 : 0 < i), i < k + 1 → ksP (l[i - 1]'(by omega)) < ksP l[i] := fun a i hi h0 hik => by
      by_cases e : i = k
      · subst e; exact a
      · exact hno i hi h0 (by omega)
    generalize (l[k]).key = x at *
    generalize (l[k - 1]).key = y at *
    repeat' (first | apply v_seq | apply v_region | apply v_nil | apply v_skip | apply v_block | (apply v_pure; (case hop => first | (apply p_move <;> rfl) | (apply p_lt <;> rfl) | (apply p_lenSlice <;> rfl) | fail); (case hd => rfl)) | (apply v_cond; (case hc => rfl); all_goals (intro h; (try simp only [reduceCtorEq, zzz] at h); first | (exfalso; omega) | skip)) | fail)
    refine d_start [] (by kernel_rfl) (by kernel_rfl) (by kernel_rfl) (by intro e he; exact he) ?_
    all_goals (apply dtk 0; (case hi => rfl); (case hop => (apply prd; apply p_move <;> rfl)); (case hq => kernel_rfl))
    all_goals (apply dtk 1; (case hi => rfl); (case hop => (apply prd; apply p_move <;> rfl)); (case hq => kernel_rfl))
    all_goals (apply dtk 2; (case hi => rfl); (case hop => (apply prd; apply p_indexAddrS; (case hx => rfl); (case hi => rfl); (case h0 => omega); (case h => omega); (case hA => assumption))); (case hq => kernel_rfl))
    all_goals (apply dtk 3; (case hi => rfl); (case hop => (apply prd; apply p_fieldAddr <;> rfl)); (case hq => kernel_rfl))
    all_goals (apply dtk 4; (case hi => rfl); (case hop => ((apply r_load1; rfl; exact Cell.frozen hck))); (case hq => kernel_rfl))
    all_goals (apply dtk 5; (case hi => rfl); (case hop => (apply prd; apply p_move <;> rfl)); (case hq => kernel_rfl))
    all_goals (apply dtk 6; (case hi => rfl); (case hop => (apply prd; apply p_move <;> rfl)); (case hq => kernel_rfl))
    all_goals (apply dtk 7; (case hi => rfl); (case hop => (apply prd; apply p_sub; (case hx => rfl); (case hy => rfl); (case h => omega))); (case hq => kernel_rfl))
    all_goals (apply dtk 8; (case hi => rfl); (case hop => (apply prd; apply p_indexAddrS; (case hx => rfl); (case hi => rfl); (case h0 => omega); (case h => omega); (case hA => assumption))); (case hq => kernel_rfl))
    all_goals (apply dtk 9; (case hi => rfl); (case hop => (apply prd; apply p_fieldAddr <;> rfl)); (case hq => kernel_rfl))
    all_goals (apply dtk 10; (case hi => rfl); (case hop => ((apply r_load1; rfl; exact Cell.frozen (by rw [e2]; exact hpk)))); (case hq => kernel_rfl))
    all_goals (apply dtk 11; (case hi => rfl); (case hop => ((apply prd; apply p_leK; (case hx => rfl); (case hy => rfl); (case ha => assumption); (case hb => assumption)))); (case hq => kernel_rfl))
    all_goals (apply d_done; (case hr => kernel_rfl))
    repeat' (first | apply v_seq | apply v_region | apply v_nil | apply v_skip | apply v_blk | (apply v_pure; (case hop => first | (apply p_move <;> rfl) | (apply p_assign <;> rfl) | (apply p_add; (case hx => rfl); (case hy => rfl); (case h => omega)) | fail); (case hd => rfl)) | (apply v_cond; (case hc => rfl); all_goals (intro h; (try simp only [reduceCtorEq, zzz] at h))) | fail)
    · refine v_ret [] (outsA1 rfl rfl) (by repeat (exact List.Sublist.refl _)) ?_
      refine ⟨?_, rfl⟩
      rw [decide_eq_false (fun h => by have := hin h; omega)]
    · refine v_again rfl ⟨rfl, rfl, k + 1, by omega, rfl, hnx (by omega)⟩ (by simp [headI]; omega)
  · repeat' (first | apply v_seq | apply v_region | apply v_nil | (apply v_exit; (case hp => rfl)) | (apply v_pure; (case hop => first | (apply p_move <;> rfl) | (apply p_lt <;> rfl) | (apply p_assign <;> rfl) | (apply p_lenSlice <;> rfl) | fail); (case hd => rfl)) | (apply v_cond; (case hc => rfl); all_goals (intro h; (try simp only [reduceCtorEq, zzz] at h); first | (exfalso; omega) | skip)) | fail)
    refine v_ret [] (outsA1 rfl rfl) (by repeat (exact List.Sublist.refl _)) ?_
    refine ⟨?_, rfl⟩
    rw [decide_eq_true (show AdjP l from fun i h h0 => hno i h h0 (by omega))]
theorem refSRise_s {G : GH} {l : List Ss} {sv : Value} (hs : Sss G sv l) : Con Tryz.prog 216 #[sv] G [] (Just (.bool (decide (AdjS l))) G) := by
  obtain ⟨A, c, rfl, hlc, hcm, hsome, hcp⟩ := rowOpen hs
  simp only [maxLen] at hcm
  apply Con.just
  (refine v_enter Tryz.func216 rfl Tryz.ntmps216 rfl ?_; intro B _)
  repeat' (first | apply v_seq | apply v_region | apply v_nil | apply v_block | (apply v_pure; (case hop => (apply p_assign <;> rfl)); (case hd => rfl)) | fail)
  refine v_loop [3, 0] (fun us G' μ' => G' = G ∧ μ' = [] ∧ ∃ k : Nat, 1 ≤ k ∧ us = [Value.int .i64 (k : Nat), .slice A l.length c] ∧ ∀ i (h : i < l.length) (h0 : 0 < i), i < k → ksS (l[i - 1]'(by omega)) < ksS l[i]) (fun us => l.length - (headI us).toNat) rfl ⟨rfl, rfl, 1, by omega, rfl, by omega⟩ ?_
  rintro us G' _ ⟨rfl, rfl, k, hk, rfl, hno⟩
  by_cases hlt : k < l.length
  · have e1 : ((k : Nat) : Int).toNat = k := by omega
    have e2 : (((k : Nat) : Int) - 1).toNat = k - 1 := by omega
    have hA := hsome (by omega)
    have hck := (hcp k hlt).cell (j := 0) rfl
    have hpk := (hcp (k - 1) (by omega)).cell (j := 0) rfl
    have hin : AdjS l → (l[k - 1]'(by omega)).client < (l[k]).client := fun h => h k hlt hk
    have hnx : (l[k - 1]'(by omega)).client < (l[k]).client → ∀ i (h : i < l.length) (h0 : 0 < i), i < k + 1 → ksS (l[i - 1]'(by omega)) < ksS l[i] := fun a i hi h0 hik => by
      by_cases e : i = k
      · subst e; exact a
      · exact hno i hi h0 (by omega)
    generalize (l[k]).client = x at *
    generalize (l[k - 1]).client = y at *
    repeat' (first | apply v_seq | apply v_region | apply v_nil | apply v_skip | apply v_block | (apply v_pure; (case hop => first | (apply p_move <;> rfl) | (apply p_lt <;> rfl) | (apply p_lenSlice <;> rfl) | fail); (case hd => rfl)) | (apply v_cond; (case hc => rfl); all_goals (intro h; (try simp only [reduceCtorEq, zzz] at h); first | (exfalso; omega) | skip)) | fail)
    refine d_start [] (by kernel_rfl) (by kernel_rfl) (by kernel_rfl) (by intro e he; exact he) ?_
    all_goals (apply dtk 0; (case hi => rfl); (case hop => (apply prd; apply p_move <;> rfl)); (case hq => kernel_rfl))
    all_goals (apply dtk 1; (case hi => rfl); (case hop => (apply prd; apply p_move <;> rfl)); (case hq => kernel_rfl))
    all_goals (apply dtk 2; (case hi => rfl); (case hop => (apply prd; apply p_indexAddrS; (case hx => rfl); (case hi => rfl); (case h0 => omega); (case h => omega); (case hA => assumption))); (case hq => kernel_rfl))
    all_goals (apply dtk 3; (case hi => rfl); (case hop => (apply prd; apply p_fieldAddr <;> rfl)); (case hq => kernel_rfl))
    all_goals (apply dtk 4; (case hi => rfl); (case hop => ((apply r_load1; rfl; exact Cell.frozen hck))); (case hq => kernel_rfl))
    all_goals (apply dtk 5; (case hi => rfl); (case hop => (apply prd; apply p_move <;> rfl)); (case hq => kernel_rfl))
    all_goals (apply dtk 6; (case hi => rfl); (case hop => (apply prd; apply p_move <;> rfl)); (case hq => kernel_rfl))
    all_goals (apply dtk 7; (case hi => rfl); (case hop => (apply prd; apply p_sub; (case hx => rfl); (case hy => rfl); (case h => omega))); (case hq => kernel_rfl))
    all_goals (apply dtk 8; (case hi => rfl); (case hop => (apply prd; apply p_indexAddrS; (case hx => rfl); (case hi => rfl); (case h0 => omega); (case h => omega); (case hA => assumption))); (case hq => kernel_rfl))
    all_goals (apply dtk 9; (case hi => rfl); (case hop => (apply prd; apply p_fieldAddr <;> rfl)); (case hq => kernel_rfl))
    all_goals (apply dtk 10; (case hi => rfl); (case hop => ((apply r_load1; rfl; exact Cell.frozen (by rw [e2]; exact hpk)))); (case hq => kernel_rfl))
    all_goals (apply dtk 11; (case hi => rfl); (case hop => (apply prd; apply p_le <;> rfl)); (case hq => kernel_rfl))
    all_goals (apply d_done; (case hr => kernel_rfl))
    repeat' (first | apply v_seq | apply v_region | apply v_nil | apply v_skip | apply v_blk | (apply v_pure; (case hop => first | (apply p_move <;> rfl) | (apply p_assign <;> rfl) | (apply p_add; (case hx => rfl); (case hy => rfl); (case h => omega)) | fail); (case hd => rfl)) | (apply v_cond; (case hc => rfl); all_goals (intro h; (try simp only [reduceCtorEq, zzz] at h))) | fail)
    · refine v_ret [] (outsA1 rfl rfl) (by repeat (exact List.Sublist.refl _)) ?_
      refine ⟨?_, rfl⟩
      rw [decide_eq_false (fun h => by have := hin h; omega)]
    · refine v_again rfl ⟨rfl, rfl, k + 1, by omega, rfl, hnx (by omega)⟩ (by simp [headI]; omega)
  · repeat' (first | apply v_seq | apply v_region | apply v_nil | (apply v_exit; (case hp => rfl)) | (apply v_pure; (case hop => first | (apply p_move <;> rfl) | (apply p_lt <;> rfl) | (apply p_assign <;> rfl) | (apply p_lenSlice <;> rfl) | fail); (case hd => rfl)) | (apply v_cond; (case hc => rfl); all_goals (intro h; (try simp only [reduceCtorEq, zzz] at h); first | (exfalso; omega) | skip)) | fail)
    refine v_ret [] (outsA1 rfl rfl) (by repeat (exact List.Sublist.refl _)) ?_
    refine ⟨?_, rfl⟩
    rw [decide_eq_true (show AdjS l from fun i h h0 => hno i h h0 (by omega))]
theorem refAns_s {G : GH} (a : An) (hv : a.val.size ≤ 200) : Con Tryz.prog 215 #[.agg a.cells.toArray] G [] (Just (.int .i64 (ansI a)) G) := by
  have qv := refVal_s (G := G) (s := a.val) (by omega)
  unfold ansI
  apply Con.just
  obtain ⟨client, seq, err, found, val, rev⟩ := a
  simp only at *
  generalize hvb : valB val = vb at *
  (refine v_enter Tryz.func215 rfl Tryz.ntmps215 rfl ?_; intro B _)
  repeat' (first | (apply v_box (zs := An.cells ⟨client, seq, err, found, val, rev⟩); (case hx => rfl); (case hz => rfl); (case hd => rfl); intro b) | apply v_seq | apply v_region | apply v_nil | apply v_skip | (apply v_take; (case hg => rfl)) | (apply v_pass; (case hg => rfl); (case hn => rfl); (case hd => rfl)) | (apply v_pure; (case hop => first | (apply p_move <;> rfl) | (apply p_lt <;> rfl) | (apply p_gt <;> rfl) | (apply p_assign <;> rfl) | (apply p_pickT <;> rfl) | (apply p_pickF <;> rfl) | (apply p_not <;> rfl) | (apply p_fieldAddrB <;> rfl) | fail); (case hd => rfl)) | (apply v_condT; (case hc => rfl)) | (apply v_cond; (case hc => rfl); all_goals (intro h; (try simp only [reduceCtorEq, zzz] at h))) | (apply v_guardB; (case h1 => rfl); (case h2 => rfl); all_goals (intro h; (try simp only [reduceCtorEq, zzz] at h))) | (apply v_callJ (hs := qv); (case ha => rfl); (case hd => rfl)) | (apply v_read; (case hop => (apply r_load1; rfl; (apply Cell.own; (case h => (repeat (exact mhd _))); rfl))); (case hd => rfl)) | fail)
  all_goals
    (refine v_ret [] (outsA1 rfl rfl) (by repeat (exact List.nil_sublist _)) ?_
     refine ⟨?_, rfl⟩
     (repeat' split) <;> first | rfl | (exfalso; omega) | (exfalso; simp_all; done))
set_option maxHeartbeats 1000000 in
theorem refSCheck_s {G : GH} {l : List Ss} {sv : Value} (hs : Sss G sv l) (hz : SizedS l) : Con Tryz.prog 142 #[sv] G [] (Just (.bool (decide (SesP l))) G) := by
  have qr := refSRise_s hs
  obtain ⟨A, c, rfl, hlc, hcm, hsome, hcp⟩ := rowOpen hs
  simp only [maxLen] at hcm
  apply Con.just
  (refine v_enter Tryz.func142 rfl Tryz.ntmps142 rfl ?_; intro B _)
  repeat' (first | apply v_seq | apply v_region | apply v_nil | apply v_block | (apply v_pure; (case hop => (apply p_assign <;> rfl)); (case hd => rfl)) | fail)
  refine v_loop [3, 0] (fun us G' μ' => G' = G ∧ μ' = [] ∧ ∃ k : Nat, k ≤ l.length ∧ us = [Value.int .i64 (k : Nat), .slice A l.length c] ∧ ∀ i (h : i < l.length), i < k → SsOk l[i]) (fun us => l.length - (headI us).toNat) rfl ⟨rfl, rfl, 0, by omega, rfl, by omega⟩ ?_
  rintro us G' _ ⟨rfl, rfl, k, hk, rfl, hno⟩
  by_cases hlt : k < l.length
  · have e1 : ((k : Nat) : Int).toNat = k := by omega
    have hA := hsome (by omega)
    have hck := hcp k hlt
    have hz1 := hz _ (List.getElem_mem hlt)
    have hin : ∀ P : Prop, SesP l → (SsOk l[k] → P) → P := fun P h hp => hp (h.2 _ (List.getElem_mem hlt))
    have hnx : SsOk l[k] → ∀ i (h : i < l.length), i < k + 1 → SsOk l[i] := fun a2 i hi hik => by
      by_cases e : i = k
      · subst e
        exact a2
      · exact hno i hi (by omega)
    have qa := refAns_s (G := G') (l[k]).last hz1
    generalize l[k] = x at *
    obtain ⟨client, seq, ⟨lc, ls, le, lf, lv, lr⟩⟩ := x
    unfold SsOk at hin hnx
    simp only at *
    have hc0 := hck.cell (j := 0) rfl
    have hc1 := hck.cell (j := 1) rfl
    have hl : CellsG G' (((adr A).add (k * 8)).add 2) (An.cells ⟨lc, ls, le, lf, lv, lr⟩) := fun j v hv => by
      rw [add_add]
      refine hck (2 + j) v ?_
      rw [Nat.add_comm]
      exact hv
    have hl0 := hl.cell (j := 0) rfl
    have hl1 := hl.cell (j := 1) rfl
    generalize ansI ⟨lc, ls, le, lf, lv, lr⟩ = ai at *
    repeat' (first | apply v_seq | apply v_region | apply v_nil | apply v_skip | apply v_block | (apply v_pure; (case hop => first | (apply p_move <;> rfl) | (apply p_lt <;> rfl) | (apply p_lenSlice <;> rfl) | fail); (case hd => rfl)) | (apply v_cond; (case hc => rfl); all_goals (intro h; (try simp only [reduceCtorEq, zzz] at h); first | (exfalso; omega) | skip)) | fail)
    refine d_start [] (by kernel_rfl) (by kernel_rfl) (by kernel_rfl) (by intro e he; exact he) ?_
    all_goals (apply dtk 0; (case hi => rfl); (case hop => (apply prd; apply p_move <;> rfl)); (case hq => kernel_rfl))
    all_goals (apply dtk 1; (case hi => rfl); (case hop => (apply prd; apply p_move <;> rfl)); (case hq => kernel_rfl))
    all_goals (apply dtk 2; (case hi => rfl); (case hop => (apply prd; apply p_indexAddrS; (case hx => rfl); (case hi => rfl); (case h0 => omega); (case h => omega); (case hA => assumption))); (case hq => kernel_rfl))
    all_goals (apply dtk 3; (case hi => rfl); (case hop => (apply prd; apply p_fieldAddr <;> rfl)); (case hq => kernel_rfl))
    all_goals (apply dtk 4; (case hi => rfl); (case hop => (apply prd; apply p_fieldAddrB <;> rfl)); (case hq => kernel_rfl))
    all_goals (apply dtk 5; (case hi => rfl); (case hop => ((apply r_load1; rfl; exact Cell.frozen hl0))); (case hq => kernel_rfl))
    all_goals (apply dtk 6; (case hi => rfl); (case hop => (apply prd; apply p_move <;> rfl)); (case hq => kernel_rfl))
    all_goals (apply dtk 7; (case hi => rfl); (case hop => (apply prd; apply p_move <;> rfl)); (case hq => kernel_rfl))
    all_goals (apply dtk 8; (case hi => rfl); (case hop => (apply prd; apply p_indexAddrS; (case hx => rfl); (case hi => rfl); (case h0 => omega); (case h => omega); (case hA => assumption))); (case hq => kernel_rfl))
    all_goals (apply dtk 9; (case hi => rfl); (case hop => (apply prd; apply p_fieldAddr <;> rfl)); (case hq => kernel_rfl))
    all_goals (apply dtk 10; (case hi => rfl); (case hop => ((apply r_load1; rfl; exact Cell.frozen hc0))); (case hq => kernel_rfl))
    all_goals (apply dtk 11; (case hi => rfl); (case hop => (apply prd; apply p_ne <;> rfl)); (case hq => kernel_rfl))
    all_goals (apply dtk 12; (case hi => rfl); (case hop => (apply prd; apply p_move <;> rfl)); (case hq => kernel_rfl))
    all_goals (try (apply d_guardB 13; (case hi => rfl); (case hgd => rfl); (case h1 => rfl); (case h2 => rfl); all_goals (intro h; (try simp only [reduceCtorEq, zzz] at h))))
    all_goals (first | (apply dpa 13; (case hi => rfl); (case hg => rfl); (case hn => rfl); (case hq => kernel_rfl)) | (apply dtg 13; (case hi => rfl); (case hg => rfl); (case hop => (apply prd; apply p_move <;> rfl)); (case hq => kernel_rfl)) | fail)
    all_goals (try (apply d_guardB 14; (case hi => rfl); (case hgd => rfl); (case h1 => rfl); (case h2 => rfl); all_goals (intro h; (try simp only [reduceCtorEq, zzz] at h))))
    all_goals (first | (apply dpa 14; (case hi => rfl); (case hg => rfl); (case hn => rfl); (case hq => kernel_rfl)) | (apply dtg 14; (case hi => rfl); (case hg => rfl); (case hop => (apply prd; apply p_move <;> rfl)); (case hq => kernel_rfl)) | fail)
    all_goals (try (apply d_guardB 15; (case hi => rfl); (case hgd => rfl); (case h1 => rfl); (case h2 => rfl); all_goals (intro h; (try simp only [reduceCtorEq, zzz] at h))))
    all_goals (first | (apply dpa 15; (case hi => rfl); (case hg => rfl); (case hn => rfl); (case hq => kernel_rfl)) | (apply dtg 15; (case hi => rfl); (case hg => rfl); (case hop => (apply prd; apply p_indexAddrS; (case hx => rfl); (case hi => rfl); (case h0 => omega); (case h => omega); (case hA => assumption))); (case hq => kernel_rfl)) | fail)
    all_goals (try (apply d_guardB 16; (case hi => rfl); (case hgd => rfl); (case h1 => rfl); (case h2 => rfl); all_goals (intro h; (try simp only [reduceCtorEq, zzz] at h))))
    all_goals (first | (apply dpa 16; (case hi => rfl); (case hg => rfl); (case hn => rfl); (case hq => kernel_rfl)) | (apply dtg 16; (case hi => rfl); (case hg => rfl); (case hop => (apply prd; apply p_fieldAddr <;> rfl)); (case hq => kernel_rfl)) | fail)
    all_goals (try (apply d_guardB 17; (case hi => rfl); (case hgd => rfl); (case h1 => rfl); (case h2 => rfl); all_goals (intro h; (try simp only [reduceCtorEq, zzz] at h))))
    all_goals (first | (apply dpa 17; (case hi => rfl); (case hg => rfl); (case hn => rfl); (case hq => kernel_rfl)) | (apply dtg 17; (case hi => rfl); (case hg => rfl); (case hop => (apply prd; apply p_fieldAddrB <;> rfl)); (case hq => kernel_rfl)) | fail)
    all_goals (try (apply d_guardB 18; (case hi => rfl); (case hgd => rfl); (case h1 => rfl); (case h2 => rfl); all_goals (intro h; (try simp only [reduceCtorEq, zzz] at h))))
    all_goals (first | (apply dpa 18; (case hi => rfl); (case hg => rfl); (case hn => rfl); (case hq => kernel_rfl)) | (apply dtg 18; (case hi => rfl); (case hg => rfl); (case hop => ((apply r_load1; rfl; exact Cell.frozen hl1))); (case hq => kernel_rfl)) | fail)
    all_goals (try (apply d_guardB 19; (case hi => rfl); (case hgd => rfl); (case h1 => rfl); (case h2 => rfl); all_goals (intro h; (try simp only [reduceCtorEq, zzz] at h))))
    all_goals (first | (apply dpa 19; (case hi => rfl); (case hg => rfl); (case hn => rfl); (case hq => kernel_rfl)) | (apply dtg 19; (case hi => rfl); (case hg => rfl); (case hop => (apply prd; apply p_move <;> rfl)); (case hq => kernel_rfl)) | fail)
    all_goals (try (apply d_guardB 20; (case hi => rfl); (case hgd => rfl); (case h1 => rfl); (case h2 => rfl); all_goals (intro h; (try simp only [reduceCtorEq, zzz] at h))))
    all_goals (first | (apply dpa 20; (case hi => rfl); (case hg => rfl); (case hn => rfl); (case hq => kernel_rfl)) | (apply dtg 20; (case hi => rfl); (case hg => rfl); (case hop => (apply prd; apply p_move <;> rfl)); (case hq => kernel_rfl)) | fail)
    all_goals (try (apply d_guardB 21; (case hi => rfl); (case hgd => rfl); (case h1 => rfl); (case h2 => rfl); all_goals (intro h; (try simp only [reduceCtorEq, zzz] at h))))
    all_goals (first | (apply dpa 21; (case hi => rfl); (case hg => rfl); (case hn => rfl); (case hq => kernel_rfl)) | (apply dtg 21; (case hi => rfl); (case hg => rfl); (case hop => (apply prd; apply p_indexAddrS; (case hx => rfl); (case hi => rfl); (case h0 => omega); (case h => omega); (case hA => assumption))); (case hq => kernel_rfl)) | fail)
    all_goals (try (apply d_guardB 22; (case hi => rfl); (case hgd => rfl); (case h1 => rfl); (case h2 => rfl); all_goals (intro h; (try simp only [reduceCtorEq, zzz] at h))))
    all_goals (first | (apply dpa 22; (case hi => rfl); (case hg => rfl); (case hn => rfl); (case hq => kernel_rfl)) | (apply dtg 22; (case hi => rfl); (case hg => rfl); (case hop => (apply prd; apply p_fieldAddr <;> rfl)); (case hq => kernel_rfl)) | fail)
    all_goals (try (apply d_guardB 23; (case hi => rfl); (case hgd => rfl); (case h1 => rfl); (case h2 => rfl); all_goals (intro h; (try simp only [reduceCtorEq, zzz] at h))))
    all_goals (first | (apply dpa 23; (case hi => rfl); (case hg => rfl); (case hn => rfl); (case hq => kernel_rfl)) | (apply dtg 23; (case hi => rfl); (case hg => rfl); (case hop => ((apply r_load1; rfl; exact Cell.frozen hc1))); (case hq => kernel_rfl)) | fail)
    all_goals (try (apply d_guardB 24; (case hi => rfl); (case hgd => rfl); (case h1 => rfl); (case h2 => rfl); all_goals (intro h; (try simp only [reduceCtorEq, zzz] at h))))
    all_goals (first | (apply dpa 24; (case hi => rfl); (case hg => rfl); (case hn => rfl); (case hq => kernel_rfl)) | (apply dtg 24; (case hi => rfl); (case hg => rfl); (case hop => (apply prd; apply p_ne <;> rfl)); (case hq => kernel_rfl)) | fail)
    all_goals (apply dtk 25; (case hi => rfl); (case hop => first | (apply prd; apply p_pickT <;> rfl) | (apply prd; apply p_pickF <;> rfl) | fail); (case hq => kernel_rfl))
    all_goals (apply dtk 26; (case hi => rfl); (case hop => (apply prd; apply p_move <;> rfl)); (case hq => kernel_rfl))
    all_goals (try (apply d_guardB 27; (case hi => rfl); (case hgd => rfl); (case h1 => rfl); (case h2 => rfl); all_goals (intro h; (try simp only [reduceCtorEq, zzz] at h))))
    all_goals (first | (apply dpa 27; (case hi => rfl); (case hg => rfl); (case hn => rfl); (case hq => kernel_rfl)) | (apply dtg 27; (case hi => rfl); (case hg => rfl); (case hop => (apply prd; apply p_move <;> rfl)); (case hq => kernel_rfl)) | fail)
    all_goals (try (apply d_guardB 28; (case hi => rfl); (case hgd => rfl); (case h1 => rfl); (case h2 => rfl); all_goals (intro h; (try simp only [reduceCtorEq, zzz] at h))))
    all_goals (first | (apply dpa 28; (case hi => rfl); (case hg => rfl); (case hn => rfl); (case hq => kernel_rfl)) | (apply dtg 28; (case hi => rfl); (case hg => rfl); (case hop => (apply prd; apply p_move <;> rfl)); (case hq => kernel_rfl)) | fail)
    all_goals (try (apply d_guardB 29; (case hi => rfl); (case hgd => rfl); (case h1 => rfl); (case h2 => rfl); all_goals (intro h; (try simp only [reduceCtorEq, zzz] at h))))
    all_goals (first | (apply dpa 29; (case hi => rfl); (case hg => rfl); (case hn => rfl); (case hq => kernel_rfl)) | (apply dtg 29; (case hi => rfl); (case hg => rfl); (case hop => (apply prd; apply p_indexAddrS; (case hx => rfl); (case hi => rfl); (case h0 => omega); (case h => omega); (case hA => assumption))); (case hq => kernel_rfl)) | fail)
    all_goals (try (apply d_guardB 30; (case hi => rfl); (case hgd => rfl); (case h1 => rfl); (case h2 => rfl); all_goals (intro h; (try simp only [reduceCtorEq, zzz] at h))))
    all_goals (first | (apply dpa 30; (case hi => rfl); (case hg => rfl); (case hn => rfl); (case hq => kernel_rfl)) | (apply dtg 30; (case hi => rfl); (case hg => rfl); (case hop => (apply prd; apply p_fieldAddr <;> rfl)); (case hq => kernel_rfl)) | fail)
    all_goals (try (apply d_guardB 31; (case hi => rfl); (case hgd => rfl); (case h1 => rfl); (case h2 => rfl); all_goals (intro h; (try simp only [reduceCtorEq, zzz] at h))))
    all_goals (first | (apply dpa 31; (case hi => rfl); (case hg => rfl); (case hn => rfl); (case hq => kernel_rfl)) | (apply dtg 31; (case hi => rfl); (case hg => rfl); (case hop => ((apply r_loadN; rfl; exact CellsAt.frozen hl; rfl))); (case hq => kernel_rfl)) | fail)
    all_goals (try (apply d_guardB 32; (case hi => rfl); (case hgd => rfl); (case h1 => rfl); (case h2 => rfl); all_goals (intro h; (try simp only [reduceCtorEq, zzz] at h))))
    all_goals (first | (apply dpa 32; (case hi => rfl); (case hg => rfl); (case hn => rfl); (case hq => kernel_rfl)) | (apply d_callJG 32 (hs := qa); (case hi => rfl); (case hg => rfl); (case hr => kernel_rfl); (case ha => rfl); (case hd => rfl)) | fail)
    all_goals (try (apply d_guardB 33; (case hi => rfl); (case hgd => rfl); (case h1 => rfl); (case h2 => rfl); all_goals (intro h; (try simp only [reduceCtorEq, zzz] at h))))
    all_goals (first | (apply dpa 33; (case hi => rfl); (case hg => rfl); (case hn => rfl); (case hq => kernel_rfl)) | (apply dtg 33; (case hi => rfl); (case hg => rfl); (case hop => (apply prd; apply p_ne <;> rfl)); (case hq => kernel_rfl)) | fail)
    all_goals (apply dtk 34; (case hi => rfl); (case hop => first | (apply prd; apply p_pickT <;> rfl) | (apply prd; apply p_pickF <;> rfl) | fail); (case hq => kernel_rfl))
    all_goals (apply d_done; (case hr => kernel_rfl))
    repeat' (first | apply v_seq | apply v_region | apply v_nil | apply v_skip | apply v_blk | (apply v_pure; (case hop => first | (apply p_move <;> rfl) | (apply p_assign <;> rfl) | (apply p_add; (case hx => rfl); (case hy => rfl); (case h => omega)) | fail); (case hd => rfl)) | (apply v_condT; (case hc => rfl)) | (apply v_cond; (case hc => rfl); all_goals (intro h; (try simp only [reduceCtorEq, zzz] at h))) | fail)
    all_goals first
      | (refine v_again rfl ⟨rfl, rfl, k + 1, by omega, rfl, hnx ⟨by omega, by omega, by omega⟩⟩ (by simp [headI]; omega))
      | (refine v_ret [] (outsA1 rfl rfl) (by repeat (exact List.Sublist.refl _)) ?_
         refine ⟨?_, rfl⟩
         rw [decide_eq_false]
         intro ho
         refine hin False ho ?_
         rintro ⟨a2, a3, a4⟩
         omega)
  · have hone : decide (AdjS l) = decide (SesP l) := by
      rw [decide_eq_decide]
      exact ⟨fun h => ⟨h, fun x hx => by
        obtain ⟨i, hi, rfl⟩ := List.getElem_of_mem hx
        exact hno i hi (by omega)⟩, fun h => h.1⟩
    rw [hone] at qr
    repeat' (first | apply v_seq | apply v_region | apply v_nil | (apply v_exit; (case hp => rfl)) | (apply v_pure; (case hop => first | (apply p_move <;> rfl) | (apply p_lt <;> rfl) | (apply p_assign <;> rfl) | (apply p_lenSlice <;> rfl) | fail); (case hd => rfl)) | (apply v_cond; (case hc => rfl); all_goals (intro h; (try simp only [reduceCtorEq, zzz] at h); first | (exfalso; omega) | skip)) | (apply v_callJ (hs := qr); (case ha => rfl); (case hd => rfl)) | fail)
    all_goals
      (refine v_ret [] (outsA1 rfl rfl) (by repeat (exact List.Sublist.refl _)) ?_
       refine ⟨?_, rfl⟩
       rfl)
theorem psOk_iff {z : Int} {l : List Pr} : PsOk z l ↔ (l.length ≤ 64 ∧ AdjP l) ∧ ∀ i (h : i < l.length), PrOk l[i] ∧ RevOk z l[i] := by
  unfold PsOk
  rw [← riseG_pw]
  constructor
  · rintro ⟨h1, h2, h3⟩
    exact ⟨⟨h1, rise_adj h2⟩, fun i h => h3 _ (List.getElem_mem h)⟩
  · rintro ⟨⟨h1, h2⟩, h3⟩
    exact ⟨h1, adj_rise h2, fun x hx => by
      obtain ⟨i, hi, rfl⟩ := List.getElem_of_mem hx
      exact h3 i hi⟩
noncomputable instance (z : Int) (l : List Pr) : Decidable (PsOk z l) := Classical.propDecidable _
set_option maxHeartbeats 1000000 in
theorem refPCheck_s {G : GH} {l : List Pr} {sv : Value} (z : Int) (hz2 : z = 1 ∨ z = 2) (hs : Prs G sv l) (hz : Sized l) : Con Tryz.prog 141 #[.int .i64 z, sv] G [] (Just (.bool (decide (PsOk z l))) G) := by
  have qr := refPRise_s hs hz
  obtain ⟨A, c, rfl, hlc, hcm, hsome, hcp⟩ := rowOpen hs
  simp only [maxLen] at hcm
  apply Con.just
  (refine v_enter Tryz.func141 rfl Tryz.ntmps141 rfl ?_; intro B _)
  repeat' (first | apply v_seq | apply v_region | apply v_nil | apply v_block | (apply v_pure; (case hop => (apply p_assign <;> rfl)); (case hd => rfl)) | fail)
  refine v_loop [5, 1, 0] (fun us G' μ' => G' = G ∧ μ' = [] ∧ ∃ k : Nat, k ≤ l.length ∧ us = [Value.int .i64 (k : Nat), .slice A l.length c, .int .i64 z] ∧ ∀ i (h : i < l.length), i < k → PrOk l[i] ∧ RevOk z l[i]) (fun us => l.length - (headI us).toNat) rfl ⟨rfl, rfl, 0, by omega, rfl, by omega⟩ ?_
  rintro us G' _ ⟨rfl, rfl, k, hk, rfl, hno⟩
  by_cases hlt : k < l.length
  · have e1 : ((k : Nat) : Int).toNat = k := by omega
    have hA := hsome (by omega)
    have hck := hcp k hlt
    have hz1 := hz _ (List.getElem_mem hlt)
    have hin : PsOk z l → PrOk l[k] ∧ RevOk z l[k] := fun h => (psOk_iff.1 h).2 k hlt
    have hnx : PrOk l[k] ∧ RevOk z l[k] → ∀ i (h : i < l.length), i < k + 1 → PrOk l[i] ∧ RevOk z l[i] := fun a2 i hi hik => by
      by_cases e : i = k
      · subst e
        exact a2
      · exact hno i hi (by omega)
    have qk := refKey_s (G := G') (s := (l[k]).key) (by omega)
    have qv := refVal_s (G := G') (s := (l[k]).val) (by omega)
    generalize l[k] = x at *
    obtain ⟨key, val, rev⟩ := x
    unfold PrOk RevOk at hin hnx
    simp only at *
    have hc0 := hck.cell (j := 0) rfl
    have hc1 := hck.cell (j := 1) rfl
    have hc2 := hck.cell (j := 2) rfl
    generalize hkb : keyB key = kb at *
    generalize hvb : valB val = vb at *
    rcases hz2 with rfl | rfl
    all_goals
      repeat' (first | apply v_seq | apply v_region | apply v_nil | apply v_skip | apply v_block | apply v_blk | (apply v_take; (case hg => rfl)) | (apply v_pass; (case hg => rfl); (case hn => rfl); (case hd => rfl)) | (apply v_passN; (case hg => rfl); (case hn => rfl); (case hd => rfl)) | (apply v_pure; (case hop => first | (apply p_move <;> rfl) | (apply p_eqs <;> rfl) | (apply p_eq <;> rfl) | (apply p_lt <;> rfl) | (apply p_gt <;> rfl) | (apply p_ne <;> rfl) | (apply p_assign <;> rfl) | (apply p_pickT <;> rfl) | (apply p_pickF <;> rfl) | (apply p_not <;> rfl) | (apply p_lenSlice <;> rfl) | (apply p_fieldAddr <;> rfl) | (apply p_add; (case hx => rfl); (case hy => rfl); (case h => omega)) | (apply p_indexAddrS; (case hx => rfl); (case hi => rfl); (case h0 => omega); (case h => omega); (case hA => assumption)) | fail); (case hd => rfl)) | (apply v_condT; (case hc => rfl)) | (apply v_condF; (case hc => rfl)) | (apply v_cond; (case hc => rfl); all_goals (intro h; (try simp only [reduceCtorEq, zzz] at h); first | (exfalso; omega) | skip)) | (apply v_guardB; (case h1 => rfl); (case h2 => rfl); all_goals (intro h; (try simp only [reduceCtorEq, zzz] at h); first | (exfalso; omega) | skip)) | (apply v_read; (case hop => (apply r_load1; rfl; exact Cell.frozen hc0)); (case hd => rfl)) | (apply v_read; (case hop => (apply r_load1; rfl; exact Cell.frozen hc1)); (case hd => rfl)) | (apply v_read; (case hop => (apply r_load1; rfl; exact Cell.frozen hc2)); (case hd => rfl)) | (apply v_callJ (hs := qk); (case ha => rfl); (case hd => rfl)) | (apply v_callJ (hs := qv); (case ha => rfl); (case hd => rfl)) | fail)
    all_goals first
      | (refine v_again rfl ⟨rfl, rfl, k + 1, by omega, rfl, hnx ⟨⟨by first | assumption | rfl, by assumption⟩, by omega⟩⟩ (by simp [headI]; omega))
      | (refine v_ret [] (outsA1 rfl rfl) (by repeat (exact List.Sublist.refl _)) ?_
         refine ⟨?_, rfl⟩
         rw [decide_eq_false]
         intro ho
         obtain ⟨⟨a1, a2⟩, a3⟩ := hin ho
         first
           | omega
           | (simp_all; done))
  · have hone : (l.length ≤ 64 ∧ AdjP l) ↔ PsOk z l := ⟨fun h => psOk_iff.2 ⟨h, fun i hi => hno i hi (by omega)⟩, fun h => (psOk_iff.1 h).1⟩
    by_cases ha : AdjP l
    all_goals
      (first | rw [decide_eq_true ha] at qr | rw [decide_eq_false ha] at qr)
      repeat' (first | apply v_seq | apply v_region | apply v_nil | (apply v_exit; (case hp => rfl)) | (apply v_take; (case hg => rfl)) | (apply v_pass; (case hg => rfl); (case hn => rfl); (case hd => rfl)) | (apply v_pure; (case hop => first | (apply p_move <;> rfl) | (apply p_lt <;> rfl) | (apply p_le <;> rfl) | (apply p_assign <;> rfl) | (apply p_pickT <;> rfl) | (apply p_pickF <;> rfl) | (apply p_lenSlice <;> rfl) | fail); (case hd => rfl)) | (apply v_cond; (case hc => rfl); all_goals (intro h; (try simp only [reduceCtorEq, zzz] at h); first | (exfalso; omega) | skip)) | (apply v_guardB; (case h1 => rfl); (case h2 => rfl); all_goals (intro h; (try simp only [reduceCtorEq, zzz] at h))) | (apply v_callJ (hs := qr); (case ha => rfl); (case hd => rfl)) | fail)
    all_goals
      (refine v_ret [] (outsA1 rfl rfl) (by repeat (exact List.Sublist.refl _)) ?_
       refine ⟨?_, rfl⟩
       first
         | (rw [decide_eq_true (hone.1 ⟨by omega, ha⟩)]; done)
         | (rw [decide_eq_false (fun h => by have := hone.2 h; omega)]; done)
         | (rw [decide_eq_false (fun h => ha (hone.2 h).2)]; done))
def Lg (p : Prop) (G : GH) : Value → GH → OH → Prop := fun r G' μ' => G' = G ∧ μ' = [] ∧ ∃ b, r = .bool b ∧ (b = false → p)
theorem lastAt {G : GH} {a : Addr} {x : Ss} (h : CellsG G a x.cells) : CellsG G (a.add 2) x.last.cells := fun j v hv => by
  rw [add_add]
  refine h (2 + j) v ?_
  rw [Nat.add_comm]
  exact hv
theorem lg22_s {G : GH} {l : List Ss} {sv : Value} (hs : Sss G sv l) : Con Tryz.prog 138 #[sv] G [] (Lg (l.length ≤ 40 ∧ SizedS l) G) := by
  obtain ⟨A, c, rfl, hlc, hcm, hsome, hcp⟩ := rowOpen hs
  simp only [maxLen] at hcm
  (refine v_enter Tryz.func138 rfl Tryz.ntmps138 rfl ?_; intro B _)
  repeat' (first | apply v_seq | apply v_region | apply v_nil | apply v_block | (apply v_pure; (case hop => (apply p_assign <;> rfl)); (case hd => rfl)) | fail)
  refine v_loop [3, 0] (fun us G' μ' => G' = G ∧ μ' = [] ∧ ∃ k : Nat, k ≤ l.length ∧ us = [Value.int .i64 (k : Nat), .slice A l.length c] ∧ ∀ i (h : i < l.length), i < k → l[i].last.val.size ≤ 200) (fun us => l.length - (headI us).toNat) rfl ⟨rfl, rfl, 0, by omega, rfl, by omega⟩ ?_
  rintro us G' _ ⟨rfl, rfl, k, hk, rfl, hno⟩
  have hend : 40 ≤ k ∨ l.length ≤ k → l.length ≤ 40 → l.length ≤ 40 ∧ SizedS l := fun h1 h2 => ⟨h2, fun x hx => by
    obtain ⟨i, hi, rfl⟩ := List.getElem_of_mem hx
    exact hno i hi (by omega)⟩
  by_cases hlt : k < l.length
  · have e1 : ((k : Nat) : Int).toNat = k := by omega
    have hA := hsome (by omega)
    have hc := (lastAt (hcp k hlt)).cell (j := 4) rfl
    have hnx : (l[k]).last.val.size ≤ 200 → ∀ i (h : i < l.length), i < k + 1 → l[i].last.val.size ≤ 200 := fun a2 i hi hik => by
      by_cases e : i = k
      · subst e; exact a2
      · exact hno i hi (by omega)
    generalize (l[k]).last.val = x at *
    repeat' (first | apply v_seq | apply v_region | apply v_nil | apply v_skip | apply v_block | apply v_blk | (apply v_exit; (case hp => rfl)) | (apply v_take; (case hg => rfl)) | (apply v_pure; (case hop => first | (apply p_move <;> rfl) | (apply p_lt <;> rfl) | (apply p_gt <;> rfl) | (apply p_assign <;> rfl) | (apply p_pickT <;> rfl) | (apply p_lenSlice <;> rfl) | (apply p_fieldAddrB <;> rfl) | (apply p_fieldAddr <;> rfl) | (apply p_add; (case hx => rfl); (case hy => rfl); (case h => omega)) | (apply p_indexAddrS; (case hx => rfl); (case hi => rfl); (case h0 => omega); (case h => omega); (case hA => assumption)) | (apply p_lenString <;> rfl) | fail); (case hd => rfl)) | (apply v_cond; (case hc => rfl); all_goals (intro h; (try simp only [reduceCtorEq, zzz] at h))) | (apply v_guardB; (case h1 => rfl); (case h2 => rfl); all_goals (intro h; (try simp only [reduceCtorEq, zzz] at h); first | (exfalso; omega) | skip)) | (apply v_read; (case hop => (apply r_load1; rfl; exact Cell.frozen hc)); (case hd => rfl)) | fail)
    all_goals first
      | (refine v_again rfl ⟨rfl, rfl, k + 1, by omega, rfl, hnx (by omega)⟩ (by simp [headI]; omega))
      | (refine v_ret [] (outsA1 rfl rfl) (by repeat (exact List.Sublist.refl _)) ?_
         exact ⟨rfl, rfl, _, rfl, fun h => by first | cases h | exact hend (by omega) (by (rw [dec_eq, decide_eq_false_iff_not] at h; omega))⟩)
  · repeat' (first | apply v_seq | apply v_region | apply v_nil | (apply v_exit; (case hp => rfl)) | (apply v_pass; (case hg => rfl); (case hn => rfl); (case hd => rfl)) | (apply v_pure; (case hop => first | (apply p_move <;> rfl) | (apply p_lt <;> rfl) | (apply p_gt <;> rfl) | (apply p_assign <;> rfl) | (apply p_pickF <;> rfl) | (apply p_lenSlice <;> rfl) | fail); (case hd => rfl)) | (apply v_condF; (case hc => rfl)) | (apply v_guardB; (case h1 => rfl); (case h2 => rfl); all_goals (intro h; (try simp only [reduceCtorEq, zzz] at h); first | (exfalso; omega) | skip)) | fail)
    all_goals
      (refine v_ret [] (outsA1 rfl rfl) (by repeat (exact List.Sublist.refl _)) ?_
       exact ⟨rfl, rfl, _, rfl, fun h => by first | exact hend (by omega) (by (rw [dec_eq, decide_eq_false_iff_not] at h; omega))⟩)
theorem lg23_s {G : GH} {l : List Pr} {sv : Value} (hs : Prs G sv l) : Con Tryz.prog 139 #[sv] G [] (Lg (l.length ≤ 80 ∧ Sized l) G) := by
  obtain ⟨A, c, rfl, hlc, hcm, hsome, hcp⟩ := rowOpen hs
  simp only [maxLen] at hcm
  (refine v_enter Tryz.func139 rfl Tryz.ntmps139 rfl ?_; intro B _)
  repeat' (first | apply v_seq | apply v_region | apply v_nil | apply v_block | (apply v_pure; (case hop => (apply p_assign <;> rfl)); (case hd => rfl)) | fail)
  refine v_loop [3, 0] (fun us G' μ' => G' = G ∧ μ' = [] ∧ ∃ k : Nat, k ≤ l.length ∧ us = [Value.int .i64 (k : Nat), .slice A l.length c] ∧ ∀ i (h : i < l.length), i < k → l[i].key.size ≤ 200 ∧ l[i].val.size ≤ 200) (fun us => l.length - (headI us).toNat) rfl ⟨rfl, rfl, 0, by omega, rfl, by omega⟩ ?_
  rintro us G' _ ⟨rfl, rfl, k, hk, rfl, hno⟩
  have hend : 80 ≤ k ∨ l.length ≤ k → l.length ≤ 80 → l.length ≤ 80 ∧ Sized l := fun h1 h2 => ⟨h2, fun x hx => by
    obtain ⟨i, hi, rfl⟩ := List.getElem_of_mem hx
    exact hno i hi (by omega)⟩
  by_cases hlt : k < l.length
  · have e1 : ((k : Nat) : Int).toNat = k := by omega
    have hA := hsome (by omega)
    have hc0 := (hcp k hlt).cell (j := 0) rfl
    have hc1 := (hcp k hlt).cell (j := 1) rfl
    have hnx : (l[k]).key.size ≤ 200 ∧ (l[k]).val.size ≤ 200 → ∀ i (h : i < l.length), i < k + 1 → l[i].key.size ≤ 200 ∧ l[i].val.size ≤ 200 := fun a2 i hi hik => by
      by_cases e : i = k
      · subst e; exact a2
      · exact hno i hi (by omega)
    generalize (l[k]).key = x at *
    generalize (l[k]).val = y at *
    repeat' (first | apply v_seq | apply v_region | apply v_nil | apply v_skip | apply v_block | apply v_blk | (apply v_exit; (case hp => rfl)) | (apply v_take; (case hg => rfl)) | (apply v_pass; (case hg => rfl); (case hn => rfl); (case hd => rfl)) | (apply v_pure; (case hop => first | (apply p_move <;> rfl) | (apply p_lt <;> rfl) | (apply p_gt <;> rfl) | (apply p_assign <;> rfl) | (apply p_pickT <;> rfl) | (apply p_pickF <;> rfl) | (apply p_lenSlice <;> rfl) | (apply p_fieldAddr <;> rfl) | (apply p_add; (case hx => rfl); (case hy => rfl); (case h => omega)) | (apply p_indexAddrS; (case hx => rfl); (case hi => rfl); (case h0 => omega); (case h => omega); (case hA => assumption)) | (apply p_lenString <;> rfl) | fail); (case hd => rfl)) | (apply v_condT; (case hc => rfl)) | (apply v_cond; (case hc => rfl); all_goals (intro h; (try simp only [reduceCtorEq, zzz] at h))) | (apply v_guardB; (case h1 => rfl); (case h2 => rfl); all_goals (intro h; (try simp only [reduceCtorEq, zzz] at h); first | (exfalso; omega) | skip)) | (apply v_read; (case hop => (apply r_load1; rfl; exact Cell.frozen hc0)); (case hd => rfl)) | (apply v_read; (case hop => (apply r_load1; rfl; exact Cell.frozen hc1)); (case hd => rfl)) | fail)
    all_goals first
      | (refine v_again rfl ⟨rfl, rfl, k + 1, by omega, rfl, hnx (by omega)⟩ (by simp [headI]; omega))
      | (refine v_ret [] (outsA1 rfl rfl) (by repeat (exact List.Sublist.refl _)) ?_
         exact ⟨rfl, rfl, _, rfl, fun h => by first | cases h | exact hend (by omega) (by (rw [dec_eq, decide_eq_false_iff_not] at h; omega))⟩)
  · repeat' (first | apply v_seq | apply v_region | apply v_nil | (apply v_exit; (case hp => rfl)) | (apply v_pass; (case hg => rfl); (case hn => rfl); (case hd => rfl)) | (apply v_pure; (case hop => first | (apply p_move <;> rfl) | (apply p_lt <;> rfl) | (apply p_gt <;> rfl) | (apply p_assign <;> rfl) | (apply p_pickF <;> rfl) | (apply p_lenSlice <;> rfl) | fail); (case hd => rfl)) | (apply v_condF; (case hc => rfl)) | (apply v_guardB; (case h1 => rfl); (case h2 => rfl); all_goals (intro h; (try simp only [reduceCtorEq, zzz] at h); first | (exfalso; omega) | skip)) | fail)
    all_goals
      (refine v_ret [] (outsA1 rfl rfl) (by repeat (exact List.Sublist.refl _)) ?_
       exact ⟨rfl, rfl, _, rfl, fun h => by first | exact hend (by omega) (by (rw [dec_eq, decide_eq_false_iff_not] at h; omega))⟩)
def CmsS (l : List Cm) : Prop := l.length ≤ 60 ∧ ∀ c ∈ l, c.key.size ≤ 200 ∧ c.val.size ≤ 200 ∧ c.old.size ≤ 200
theorem lg28_s {G : GH} {l : List Cm} {sv : Value} (hs : Cms G sv l) : Con Tryz.prog 10 #[sv] G [] (Lg (CmsS l) G) := by
  obtain ⟨A, c, rfl, hlc, hcm, hsome, hcp⟩ := rowOpen hs
  simp only [maxLen] at hcm
  (refine v_enter Tryz.func10 rfl Tryz.ntmps10 rfl ?_; intro B _)
  repeat' (first | apply v_seq | apply v_region | apply v_nil | apply v_block | (apply v_pure; (case hop => (apply p_assign <;> rfl)); (case hd => rfl)) | fail)
  refine v_loop [3, 0] (fun us G' μ' => G' = G ∧ μ' = [] ∧ ∃ k : Nat, k ≤ l.length ∧ us = [Value.int .i64 (k : Nat), .slice A l.length c] ∧ ∀ i (h : i < l.length), i < k → l[i].key.size ≤ 200 ∧ l[i].val.size ≤ 200 ∧ l[i].old.size ≤ 200) (fun us => l.length - (headI us).toNat) rfl ⟨rfl, rfl, 0, by omega, rfl, by omega⟩ ?_
  rintro us G' _ ⟨rfl, rfl, k, hk, rfl, hno⟩
  have hend : 60 ≤ k ∨ l.length ≤ k → l.length ≤ 60 → CmsS l := fun h1 h2 => ⟨h2, fun x hx => by
    obtain ⟨i, hi, rfl⟩ := List.getElem_of_mem hx
    exact hno i hi (by omega)⟩
  by_cases hlt : k < l.length
  · have e1 : ((k : Nat) : Int).toNat = k := by omega
    have hA := hsome (by omega)
    have hc0 := (hcp k hlt).cell (j := 3) rfl
    have hc1 := (hcp k hlt).cell (j := 4) rfl
    have hc2 := (hcp k hlt).cell (j := 5) rfl
    have hnx : (l[k]).key.size ≤ 200 ∧ (l[k]).val.size ≤ 200 ∧ (l[k]).old.size ≤ 200 → ∀ i (h : i < l.length), i < k + 1 → l[i].key.size ≤ 200 ∧ l[i].val.size ≤ 200 ∧ l[i].old.size ≤ 200 := fun a2 i hi hik => by
      by_cases e : i = k
      · subst e; exact a2
      · exact hno i hi (by omega)
    generalize (l[k]).key = x at *
    generalize (l[k]).val = y at *
    generalize (l[k]).old = z at *
    repeat' (first | apply v_seq | apply v_region | apply v_nil | apply v_skip | apply v_block | apply v_blk | (apply v_exit; (case hp => rfl)) | (apply v_take; (case hg => rfl)) | (apply v_pass; (case hg => rfl); (case hn => rfl); (case hd => rfl)) | (apply v_pure; (case hop => first | (apply p_move <;> rfl) | (apply p_lt <;> rfl) | (apply p_gt <;> rfl) | (apply p_assign <;> rfl) | (apply p_pickT <;> rfl) | (apply p_pickF <;> rfl) | (apply p_lenSlice <;> rfl) | (apply p_fieldAddr <;> rfl) | (apply p_add; (case hx => rfl); (case hy => rfl); (case h => omega)) | (apply p_indexAddrS; (case hx => rfl); (case hi => rfl); (case h0 => omega); (case h => omega); (case hA => assumption)) | (apply p_lenString <;> rfl) | fail); (case hd => rfl)) | (apply v_condT; (case hc => rfl)) | (apply v_cond; (case hc => rfl); all_goals (intro h; (try simp only [reduceCtorEq, zzz] at h))) | (apply v_guardB; (case h1 => rfl); (case h2 => rfl); all_goals (intro h; (try simp only [reduceCtorEq, zzz] at h); first | (exfalso; omega) | skip)) | (apply v_read; (case hop => (apply r_load1; rfl; exact Cell.frozen hc0)); (case hd => rfl)) | (apply v_read; (case hop => (apply r_load1; rfl; exact Cell.frozen hc1)); (case hd => rfl)) | (apply v_read; (case hop => (apply r_load1; rfl; exact Cell.frozen hc2)); (case hd => rfl)) | fail)
    all_goals first
      | (refine v_again rfl ⟨rfl, rfl, k + 1, by omega, rfl, hnx (by omega)⟩ (by simp [headI]; omega))
      | (refine v_ret [] (outsA1 rfl rfl) (by repeat (exact List.Sublist.refl _)) ?_
         exact ⟨rfl, rfl, _, rfl, fun h => by first | cases h | exact hend (by omega) (by (rw [dec_eq, decide_eq_false_iff_not] at h; omega))⟩)
  · repeat' (first | apply v_seq | apply v_region | apply v_nil | (apply v_exit; (case hp => rfl)) | (apply v_pass; (case hg => rfl); (case hn => rfl); (case hd => rfl)) | (apply v_pure; (case hop => first | (apply p_move <;> rfl) | (apply p_lt <;> rfl) | (apply p_gt <;> rfl) | (apply p_assign <;> rfl) | (apply p_pickF <;> rfl) | (apply p_lenSlice <;> rfl) | fail); (case hd => rfl)) | (apply v_condF; (case hc => rfl)) | (apply v_guardB; (case h1 => rfl); (case h2 => rfl); all_goals (intro h; (try simp only [reduceCtorEq, zzz] at h); first | (exfalso; omega) | skip)) | fail)
    all_goals
      (refine v_ret [] (outsA1 rfl rfl) (by repeat (exact List.Sublist.refl _)) ?_
       exact ⟨rfl, rfl, _, rfl, fun h => by first | exact hend (by omega) (by (rw [dec_eq, decide_eq_false_iff_not] at h; omega))⟩)
theorem lg25_s {G : GH} {s : St} {v : Value} (hs : StV G s v) : Con Tryz.prog 78 #[v] G [] (Lg ((s.sess.length ≤ 40 ∧ SizedS s.sess) ∧ s.pairs.length ≤ 80 ∧ Sized s.pairs) G) := by
  obtain ⟨A, c, A', c', rfl, hp, hss⟩ := id hs
  have q1 := lg22_s hss
  have q2 := lg23_s hp
  obtain ⟨schema, lp, ls⟩ := s
  simp only at *
  generalize hpl : lp.length = pl at *
  generalize hsl : ls.length = sl at *
  (refine v_enter Tryz.func78 rfl Tryz.ntmps78 rfl ?_; intro B _)
  repeat' (first | (apply v_box (zs := [.int .i64 schema, .slice A pl c, .slice A' sl c']); (case hx => rfl); (case hz => rfl); (case hd => rfl); intro b) | apply v_seq | apply v_region | apply v_nil | (apply v_pure; (case hop => first | (apply p_assign <;> rfl) | (apply p_fieldAddrB <;> rfl) | fail); (case hd => rfl)) | (apply v_read; (case hop => (apply r_load1; rfl; (apply Cell.own; (case h => (repeat (exact mhd _))); rfl))); (case hd => rfl)) | fail)
  refine v_call (μ1 := []) rfl q1 (List.Perm.refl _) rfl ?_
  rintro _ G1 _ - ⟨hG1, rfl, b1, rfl, h1⟩
  subst hG1
  cases b1 with
  | true =>
    repeat' (first | apply v_nil | (apply v_pass; (case hg => rfl); (case hn => rfl); (case hd => rfl)) | (apply v_pure; (case hop => first | (apply p_move <;> rfl) | (apply p_assign <;> rfl) | (apply p_pickT <;> rfl) | fail); (case hd => rfl)) | fail)
    refine v_ret [] (outsA1 rfl rfl) (by repeat (exact List.nil_sublist _)) ?_
    exact ⟨rfl, rfl, _, rfl, fun h => by cases h⟩
  | false =>
    repeat' (first | (apply v_take; (case hg => rfl)) | (apply v_pure; (case hop => first | (apply p_move <;> rfl) | (apply p_fieldAddrB <;> rfl) | fail); (case hd => rfl)) | (apply v_read; (case hop => (apply r_load1; rfl; (apply Cell.own; (case h => (repeat (exact mhd _))); rfl))); (case hd => rfl)) | fail)
    refine v_call (μ1 := []) rfl q2 (List.Perm.refl _) rfl ?_
    rintro _ G1 _ - ⟨hG1, rfl, b2, rfl, h2⟩
    subst hG1
    repeat' (first | apply v_nil | (apply v_pure; (case hop => first | (apply p_assign <;> rfl) | (apply p_pickF <;> rfl) | fail); (case hd => rfl)) | fail)
    refine v_ret [] (outsA1 rfl rfl) (by repeat (exact List.nil_sublist _)) ?_
    exact ⟨rfl, rfl, _, rfl, fun h => ⟨h1 rfl, h2 h⟩⟩
theorem refCheck_s {G : GH} {s : St} {v : Value} (hs : StV G s v) (hz : StZ s) : Con Tryz.prog 80 #[v] G [] (Just (.bool (decide (StP s))) G) := by
  obtain ⟨A, c, A', c', rfl, hp, hss⟩ := id hs
  obtain ⟨z1, z2, z3, z4⟩ := hz
  have hst := stP_iff (s := s)
  have q1 := fun h => refPCheck_s s.schema h hp z1
  have q2 := refSCheck_s hss z2
  obtain ⟨LA, lc, e, hlc, hcm, hsome, hcp⟩ := rowOpen hss
  cases e
  simp only [maxLen] at hcm
  apply Con.just
  generalize hd : decide (StP s) = dv
  have hyes : StP s → dv = true := fun h => by rw [← hd]; exact decide_eq_true h
  have hnot : ¬ StP s → dv = false := fun h => by rw [← hd]; exact decide_eq_false h
  rw [hst] at hyes hnot
  clear hd hst
  obtain ⟨schema, lp, ls⟩ := s
  simp only at *
  (refine v_enter Tryz.func80 rfl Tryz.ntmps80 rfl ?_; intro B _)
  by_cases hz2 : schema = 1 ∨ schema = 2
  · have q1 := q1 hz2
    by_cases h1 : PsOk schema lp
    · rw [decide_eq_true h1] at q1
      by_cases h2 : SesP ls
      · rw [decide_eq_true h2] at q2
        repeat' (first | (apply v_box (zs := [.int .i64 schema, .slice A lp.length c, .slice A' ls.length c']); (case hx => rfl); (case hz => rfl); (case hd => rfl); intro b) | apply v_seq | apply v_region | apply v_nil | apply v_skip | apply v_block | (apply v_take; (case hg => rfl)) | (apply v_pure; (case hop => first | (apply p_move <;> rfl) | (apply p_lt <;> rfl) | (apply p_gt <;> rfl) | (apply p_assign <;> rfl) | (apply p_pickF <;> rfl) | (apply p_not <;> rfl) | (apply p_fieldAddrB <;> rfl) | fail); (case hd => rfl)) | (apply v_condF; (case hc => rfl)) | (apply v_guardB; (case h1 => rfl); (case h2 => rfl); all_goals (intro h; (try simp only [reduceCtorEq, zzz] at h); first | (exfalso; omega) | skip)) | (apply v_callJ (hs := q1); (case ha => rfl); (case hd => rfl)) | (apply v_callJ (hs := q2); (case ha => rfl); (case hd => rfl)) | (apply v_read; (case hop => (apply r_load1; rfl; (apply Cell.own; (case h => (repeat (exact mhd _))); rfl))); (case hd => rfl)) | fail)
        refine v_loop [3, 1] (fun us G' μ' => G' = G ∧ μ' = [(b, .cells [.int .i64 schema, .slice A lp.length c, .slice A' ls.length c'].toArray 32 (0, 0))] ∧ ∃ k : Nat, k ≤ ls.length ∧ us = [Value.int .i64 (k : Nat), .pointer (some ⟨b, 0, none⟩)] ∧ ∀ i (h : i < ls.length), i < k → schema = 1 → revS ls[i] = false) (fun us => ls.length - (headI us).toNat) rfl ⟨rfl, rfl, 0, by omega, rfl, by omega⟩ ?_
        rintro us G' _ ⟨rfl, rfl, k, hk, rfl, hno⟩
        by_cases hlt : k < ls.length
        · have e1 : ((k : Nat) : Int).toNat = k := by omega
          have hA := hsome (by omega)
          have hlt' : k < ls.length := by omega
          have hc := (lastAt (hcp k hlt)).cell (j := 5) rfl
          have hin : schema = 1 → ls.any revS = false → (ls[k]).last.rev = 0 := fun h0 h => by
            have := List.any_eq_false.1 h _ (List.getElem_mem hlt')
            unfold revS at this
            simpa using this
          have hnx : (schema = 1 → (ls[k]).last.rev = 0) → ∀ i (h : i < ls.length), i < k + 1 → schema = 1 → revS ls[i] = false := fun a2 i hi hik hs1 => by
            by_cases e : i = k
            · subst e
              unfold revS
              simpa using a2 hs1
            · exact hno i hi (by omega) hs1
          generalize (ls[k]).last.rev = x at *
          repeat' (first | apply v_seq | apply v_region | apply v_nil | apply v_skip | apply v_block | apply v_blk | (apply v_take; (case hg => rfl)) | (apply v_pass; (case hg => rfl); (case hn => rfl); (case hd => rfl)) | (apply v_pure; (case hop => first | (apply p_move <;> rfl) | (apply p_eq <;> rfl) | (apply p_lt <;> rfl) | (apply p_ne <;> rfl) | (apply p_assign <;> rfl) | (apply p_pickT <;> rfl) | (apply p_pickF <;> rfl) | (apply p_lenSlice <;> rfl) | (apply p_fieldAddrB <;> rfl) | (apply p_fieldAddr <;> rfl) | (apply p_add; (case hx => rfl); (case hy => rfl); (case h => omega)) | (apply p_indexAddrS; (case hx => rfl); (case hi => rfl); (case h0 => omega); (case h => omega); (case hA => assumption)) | fail); (case hd => rfl)) | (apply v_condF; (case hc => rfl)) | (apply v_cond; (case hc => rfl); all_goals (intro h; (try simp only [reduceCtorEq, zzz] at h); first | (exfalso; omega) | skip)) | (apply v_guardB; (case h1 => rfl); (case h2 => rfl); all_goals (intro h; (try simp only [reduceCtorEq, zzz] at h))) | (apply v_read; (case hop => (apply r_load1; rfl; exact Cell.frozen hc)); (case hd => rfl)) | (apply v_read; (case hop => (apply r_load1; rfl; (apply Cell.own; (case h => (repeat (exact mhd _))); rfl))); (case hd => rfl)) | fail)
          all_goals first
            | (refine v_again rfl ⟨rfl, rfl, k + 1, by omega, rfl, hnx (fun h => by omega)⟩ (by simp [headI]; omega))
            | (refine v_ret [] (outsA1 rfl rfl) (by repeat (exact List.nil_sublist _)) ?_
               refine ⟨?_, rfl⟩
               rw [hnot]
               rintro ⟨-, -, -, a4⟩
               have := hin (by assumption) (a4 (by assumption))
               omega)
        · have hone : schema = 1 → ls.any revS = false := fun h => List.any_eq_false.2 fun x hx => by
            obtain ⟨i, hi, rfl⟩ := List.getElem_of_mem hx
            rw [hno i hi (by omega) h]; simp
          rw [hyes ⟨h2, hz2, h1, hone⟩]
          repeat' (first | apply v_seq | apply v_region | apply v_nil | (apply v_exit; (case hp => rfl)) | (apply v_pure; (case hop => first | (apply p_move <;> rfl) | (apply p_lt <;> rfl) | (apply p_assign <;> rfl) | (apply p_lenSlice <;> rfl) | (apply p_fieldAddrB <;> rfl) | fail); (case hd => rfl)) | (apply v_cond; (case hc => rfl); all_goals (intro h; (try simp only [reduceCtorEq, zzz] at h); first | (exfalso; omega) | skip)) | (apply v_read; (case hop => (apply r_load1; rfl; (apply Cell.own; (case h => (repeat (exact mhd _))); rfl))); (case hd => rfl)) | fail)
          refine v_ret [] (outsA1 rfl rfl) (by repeat (exact List.nil_sublist _)) ?_
          exact ⟨rfl, rfl⟩
      · rw [decide_eq_false h2] at q2
        rw [hnot (fun h => h2 h.1)]
        repeat' (first | (apply v_box (zs := [.int .i64 schema, .slice A lp.length c, .slice A' ls.length c']); (case hx => rfl); (case hz => rfl); (case hd => rfl); intro b) | apply v_seq | apply v_region | apply v_nil | (apply v_take; (case hg => rfl)) | (apply v_pure; (case hop => first | (apply p_move <;> rfl) | (apply p_lt <;> rfl) | (apply p_gt <;> rfl) | (apply p_assign <;> rfl) | (apply p_pickF <;> rfl) | (apply p_not <;> rfl) | (apply p_fieldAddrB <;> rfl) | fail); (case hd => rfl)) | (apply v_condT; (case hc => rfl)) | (apply v_guardB; (case h1 => rfl); (case h2 => rfl); all_goals (intro h; (try simp only [reduceCtorEq, zzz] at h); first | (exfalso; omega) | skip)) | (apply v_callJ (hs := q1); (case ha => rfl); (case hd => rfl)) | (apply v_callJ (hs := q2); (case ha => rfl); (case hd => rfl)) | (apply v_read; (case hop => (apply r_load1; rfl; (apply Cell.own; (case h => (repeat (exact mhd _))); rfl))); (case hd => rfl)) | fail)
        refine v_ret [] (outsA1 rfl rfl) (by repeat (exact List.nil_sublist _)) ?_
        exact ⟨rfl, rfl⟩
    · rw [decide_eq_false h1] at q1
      rw [hnot (fun h => h1 h.2.2.1)]
      repeat' (first | (apply v_box (zs := [.int .i64 schema, .slice A lp.length c, .slice A' ls.length c']); (case hx => rfl); (case hz => rfl); (case hd => rfl); intro b) | apply v_seq | apply v_region | apply v_nil | (apply v_take; (case hg => rfl)) | (apply v_pass; (case hg => rfl); (case hn => rfl); (case hd => rfl)) | (apply v_pure; (case hop => first | (apply p_move <;> rfl) | (apply p_lt <;> rfl) | (apply p_gt <;> rfl) | (apply p_assign <;> rfl) | (apply p_pickT <;> rfl) | (apply p_pickF <;> rfl) | (apply p_not <;> rfl) | (apply p_fieldAddrB <;> rfl) | fail); (case hd => rfl)) | (apply v_condT; (case hc => rfl)) | (apply v_guardB; (case h1 => rfl); (case h2 => rfl); all_goals (intro h; (try simp only [reduceCtorEq, zzz] at h); first | (exfalso; omega) | skip)) | (apply v_callJ (hs := q1); (case ha => rfl); (case hd => rfl)) | (apply v_read; (case hop => (apply r_load1; rfl; (apply Cell.own; (case h => (repeat (exact mhd _))); rfl))); (case hd => rfl)) | fail)
      refine v_ret [] (outsA1 rfl rfl) (by repeat (exact List.nil_sublist _)) ?_
      exact ⟨rfl, rfl⟩
  · rw [hnot (fun h => hz2 h.2.1)]
    repeat' (first | (apply v_box (zs := [.int .i64 schema, .slice A lp.length c, .slice A' ls.length c']); (case hx => rfl); (case hz => rfl); (case hd => rfl); intro b) | apply v_seq | apply v_region | apply v_nil | (apply v_take; (case hg => rfl)) | (apply v_pass; (case hg => rfl); (case hn => rfl); (case hd => rfl)) | (apply v_pure; (case hop => first | (apply p_move <;> rfl) | (apply p_lt <;> rfl) | (apply p_gt <;> rfl) | (apply p_assign <;> rfl) | (apply p_pickT <;> rfl) | (apply p_pickF <;> rfl) | (apply p_fieldAddrB <;> rfl) | fail); (case hd => rfl)) | (apply v_condT; (case hc => rfl)) | (apply v_guardB; (case h1 => rfl); (case h2 => rfl); all_goals (intro h; (try simp only [reduceCtorEq, zzz] at h); first | (exfalso; omega) | skip)) | (apply v_read; (case hop => (apply r_load1; rfl; (apply Cell.own; (case h => (repeat (exact mhd _))); rfl))); (case hd => rfl)) | fail)
    all_goals
      (refine v_ret [] (outsA1 rfl rfl) (by repeat (exact List.nil_sublist _)) ?_
       exact ⟨rfl, rfl⟩)
section
variable {α : Type} {key : α → Int}
end
section
attribute [local semireducible] Vc DVc Con PureOp ReadOp MoveOp
theorem d_fork3 {P : Program} {fn : Func} {n : Nat} {B : Base} {Φ : Value → GH → OH → Prop} {k : List It} {σ : Env} {G G0 : GH} {μ : OH} {all : Array Oper} {m : Nat} {listed : Array Bool} {ν : OH} (i j l : Nat) (hr : Region.ready .any all listed = [i, j, l]) (h1 : DX P fn n B Φ all G0 ν m listed k σ G μ i) (h2 : DX P fn n B Φ all G0 ν m listed k σ G μ j) (h3 : DX P fn n B Φ all G0 ν m listed k σ G μ l) : DVc P fn n B Φ all G0 ν (m + 1) listed k σ G μ := by
  intro hsel hle hν w hw a ha
  refine wpAnyH_all hr (by simp) fun x hx => ?_
  simp only [List.mem_cons, List.mem_singleton, List.not_mem_nil, or_false] at hx
  obtain rfl | rfl | rfl := hx
  · exact h1 hsel hle hν w hw a ha
  · exact h2 hsel hle hν w hw a ha
  · exact h3 hsel hle hν w hw a ha
end
end Go.Proofs.YtmdeeokejdkceaaGreatDoor
/-
  app's law (layer 28): awake, in plain Lean.
-/
set_option linter.unusedSimpArgs false
set_option linter.unusedVariables false
namespace Go.Proofs.YtmdeeokejdkceaaGreatDoor
open Go.Vx Go.ChangeShapes Go.WideShapes Go.ChangeAt Go.RowKit
abbrev emp : St := ⟨1, [], []⟩
abbrev mA : Cm := ⟨6, 0, 0, ByteArray.empty, ByteArray.empty, ByteArray.empty, 0⟩
theorem sesP_nil : SesP [] := ⟨fun i hi => by simp at hi, fun x hx => by simp at hx⟩
theorem emp_ok : StP emp := stP_iff.2 ⟨sesP_nil, .inl rfl, ⟨by simp, List.Pairwise.nil, fun x hx => by simp at hx⟩, fun _ => rfl⟩
theorem empty_s (G : GH) : Con Tryz.prog 14 #[] G [] (Just (.agg [.int .i64 1, .slice none 0 0, .slice none 0 0].toArray) G) := by
  apply Con.just
  (refine v_enter Tryz.func14 rfl Tryz.ntmps14 rfl ?_; intro B _)
  repeat' (first | (apply v_alloc (d := 0); (case hz => rfl); (case hd => rfl); intro b0) | apply v_seq | apply v_region | apply v_nil | apply v_skip | apply v_block | apply v_blk | (apply v_exit; (case hp => rfl)) | (apply v_take; (case hg => rfl)) | (apply v_pass; (case hg => rfl); (case hn => rfl); (case hd => rfl)) | (apply v_passN; (case hg => rfl); (case hn => rfl); (case hd => rfl)) | (apply v_pure; (case hop => (apply p_build; (case hz => rfl); (case hv => (simp only [List.map_cons, List.map_nil]; repeat (first | with_reducible exact evs_nil | (apply evs_cons; (case h1 => rfl))))); (case hb => (apply bldL; repeat (first | exact bld_nil | (apply bld_cons; (case hpf => rfl); (case hc => rfl); (case hs => rfl); (case hl => rfl); (case ho => (first | ((repeat (first | with_reducible exact ov_nil | apply ov_cons | apply ov_there)); done) | rfl)))))))); (case hd => rfl)) | (apply v_condT; (case hc => rfl)) | (apply v_condF; (case hc => rfl)) | (apply v_cond; (case hc => rfl); all_goals (intro h; (try simp only [reduceCtorEq, zzz] at h); first | done | (exfalso; omega) | (exfalso; exact h (by with_reducible assumption)) | (exfalso; revert h; rw [imp_false]; with_reducible assumption) | skip)) | (apply v_guardB; (case h1 => rfl); (case h2 => rfl); all_goals (intro h; (try simp only [reduceCtorEq, zzz] at h); first | done | (exfalso; omega) | (exfalso; exact h (by with_reducible assumption)) | (exfalso; revert h; rw [imp_false]; with_reducible assumption) | skip)) | (apply v_alloc; (case hz => rfl); (case hd => rfl); intro b) | (apply v_store; (case hp => rfl); (case hx => rfl); (case hc => rfl); (case hsz => rfl); (case h1 => rfl); (case hb => (repeat (first | exact mhd _ | apply mtl | apply List.mem_append_right))); (case hfit => first | exact nle rfl | (simp; omega)); (case hov => (first | ((repeat (first | with_reducible exact ov_nil | apply ov_cons | apply ov_there)); done) | rfl)); (case hu => repeat (first | exact Upd.here _ _ | apply Upd.there | apply Upd.app))) | fail)
  refine v_retM [] (outsM_cell (sz := 3) (vs := [.int .i64 1, .slice none 0 0, .slice none 0 0]) (e := 32) rfl rfl (by (repeat (first | exact mhd _ | apply mtl))) rfl) (List.nil_sublist _) ⟨rfl, rfl⟩
theorem emp_v (G : GH) : StV G emp (.agg [.int .i64 1, .slice none 0 0, .slice none 0 0].toArray) := by
  refine ⟨none, 0, none, 0, rfl, ?_, ?_⟩
  · exact row_of_grow Pr.len (Grow.nil 144 3) (fun b o h => by cases h)
  · exact row_of_grow Ss.len (Grow.nil 146 8) (fun b o h => by cases h)
section
attribute [local semireducible] Vc DVc Con PureOp ReadOp MoveOp
end
end Go.Proofs.YtmdeeokejdkceaaGreatDoor
/-
  conf (layer 11), the first part: what its readers, and the reference's, answer.
-/
set_option linter.unusedSimpArgs false
set_option linter.unusedVariables false
namespace Go.Proofs.YtmdeeokejdkceaaGreatDoor
open Go.Vx Go.ChangeShapes Go.WideShapes Go.ChangeAt Go.RowKit
abbrev Co := Int × List Int
def CoR (G : GH) (x : Co) (cs : List Value) : Prop := ∃ mv, cs = [.int .i64 x.1, mv] ∧ (Lit.int .i64 x.1).wf = true ∧ Sl G 1 (IntR .i64) mv x.2
theorem CoR.le {G G' : GH} (h : GH.le G G') {x : Co} {cs : List Value} (hc : CoR G x cs) : CoR G' x cs := let ⟨mv, h1, h2, h3⟩ := hc; ⟨mv, h1, h2, h3.mono h⟩
abbrev Cos (G : GH) (v : Value) (l : List Co) : Prop := Sl G 2 (CoR G) v l
theorem Cos.le {G G' : GH} (h : GH.le G G') {v : Value} {l : List Co} (hc : Cos G v l) : Cos G' v l := Sl.le hc h fun _ _ => CoR.le h
theorem coOpen {G : GH} {v : Value} {l : List Co} (h : Cos G v l) : ∃ A c, ∃ (mA : Nat → Option Addr) (mc : Nat → Nat), v = .slice A l.length c ∧ l.length ≤ c ∧ c ≤ maxLen ∧ (0 < l.length → A.isSome = true) ∧
    (∀ i (h : i < l.length), CellsG G ((adr A).add (i * 2)) [.int .i64 l[i].1, .slice (mA i) l[i].2.length (mc i)]) ∧ (∀ i (h : i < l.length), GH.cell? G (((adr A).add (i * 2)).add 0) = some (.int .i64 l[i].1)) ∧ (∀ i (h : i < l.length), GH.cell? G (((adr A).add (i * 2)).add 1) = some (.slice (mA i) l[i].2.length (mc i))) ∧
    (∀ i (h : i < l.length), Sl G 1 (IntR .i64) (.slice (mA i) l[i].2.length (mc i)) l[i].2) ∧ (∀ i (h : i < l.length), (Lit.int .i64 l[i].1).wf = true) := by
  obtain ⟨A, c, rfl, h1, h2, h3, h4⟩ := h.open
  have key : ∀ i, ∃ m : Option Addr × Nat, ∀ (h : i < l.length), CellsG G ((adr A).add (i * 2)) [.int .i64 l[i].1, .slice m.1 l[i].2.length m.2] ∧ Sl G 1 (IntR .i64) (.slice m.1 l[i].2.length m.2) l[i].2 ∧ (Lit.int .i64 l[i].1).wf = true := fun i => by
    by_cases hi : i < l.length
    · obtain ⟨cs, _, ⟨mv, rfl, h6, h7⟩, h5⟩ := h4 i _ (List.getElem?_eq_getElem hi)
      obtain ⟨A', c', rfl, _⟩ := h7.openInt
      exact ⟨(A', c'), fun _ => ⟨h5, h7, h6⟩⟩
    · exact ⟨(none, 0), fun h => absurd h hi⟩
  have hk := fun i => Classical.choose_spec (key i)
  exact ⟨A, c, fun i => (Classical.choose (key i)).1, fun i => (Classical.choose (key i)).2, rfl, h1, h2, h3, fun i hi => (hk i hi).1, fun i hi => (hk i hi).1.cell (j := 0) rfl, fun i hi => (hk i hi).1.cell (j := 1) rfl, fun i hi => (hk i hi).2.1, fun i hi => (hk i hi).2.2⟩
def intsB (a b : List Int) : Bool := decide (a = b)
theorem ints_s {G : GH} {a b : List Int} {av bv : Value} (ha : Sl G 1 (IntR .i64) av a) (hb : Sl G 1 (IntR .i64) bv b) : Con Tryz.prog 26 #[av, bv] G [] (Just (.bool (intsB a b)) G) := by
  obtain ⟨A, c, rfl, hlc, hcm, hsome, hel, _⟩ := ha.openInt
  obtain ⟨A', c', rfl, hlc', hcm', hsome', hel', _⟩ := hb.openInt
  simp only [maxLen] at hcm hcm'
  (refine v_enter Tryz.func26 rfl Tryz.ntmps26 rfl ?_; intro B _)
  repeat' (first | apply v_seq | apply v_region | apply v_nil | apply v_skip | apply v_block | (apply v_pure; (case hop => first | (apply p_move <;> rfl) | (apply p_ne <;> rfl) | (apply p_assign <;> rfl) | (apply p_lenSlice <;> rfl) | fail); (case hd => rfl)) | (apply v_cond; (case hc => rfl); all_goals (intro h; (try simp only [reduceCtorEq, zzz] at h))) | fail)
  · refine v_ret [] (outsA1 rfl rfl) (by repeat (exact List.Sublist.refl _)) ?_
    refine ⟨?_, rfl, rfl⟩
    rw [intsB, decide_eq_false]
    intro e
    subst e
    omega
  have hab : a.length = b.length := by omega
  refine v_loop [5, 0, 1] (fun us G' μ' => G' = G ∧ μ' = [] ∧ ∃ k, k ≤ a.length ∧ us = [Value.int .i64 (k : Nat), .slice A a.length c, .slice A' b.length c'] ∧ ∀ i (h : i < a.length) (h' : i < b.length), i < k → a[i] = b[i]) (fun us => a.length - (headI us).toNat) rfl ⟨rfl, rfl, 0, by omega, rfl, by omega⟩ ?_
  rintro us G' μ' ⟨rfl, rfl, k, hk, rfl, hno⟩
  repeat' (first | apply v_seq | apply v_region | apply v_nil | apply v_skip | apply v_block | (apply v_exit; (case hp => rfl)) | (apply v_pure; (case hop => first | (apply p_move <;> rfl) | (apply p_lt <;> rfl) | (apply p_assign <;> rfl) | (apply p_lenSlice <;> rfl) | fail); (case hd => rfl)) | (apply v_cond; (case hc => rfl); all_goals (intro h; (try simp only [reduceCtorEq, zzz] at h))) | fail)
  · refine d_start [] (by kernel_rfl) (by kernel_rfl) (by kernel_rfl) (by intro e he; exact he) ?_
    all_goals (apply dtk 0; (case hi => rfl); (case hop => (apply prd; apply p_move <;> rfl)); (case hq => kernel_rfl))
    all_goals (apply dtk 1; (case hi => rfl); (case hop => (apply prd; apply p_move <;> rfl)); (case hq => kernel_rfl))
    all_goals (apply dtk 2; (case hi => rfl); (case hop => (apply prd; apply p_indexAddrS; (case hx => rfl); (case hi => rfl); (case h0 => omega); (case h => omega); (case hA => (apply_assumption; omega)))); (case hq => kernel_rfl))
    all_goals (apply dtk 3; (case hi => rfl); (case hop => ((apply r_load1; rfl; exact Cell.frozen (hel _ (by omega))))); (case hq => kernel_rfl))
    all_goals (apply dtk 4; (case hi => rfl); (case hop => (apply prd; apply p_move <;> rfl)); (case hq => kernel_rfl))
    all_goals (apply dtk 5; (case hi => rfl); (case hop => (apply prd; apply p_move <;> rfl)); (case hq => kernel_rfl))
    all_goals (apply dtk 6; (case hi => rfl); (case hop => (apply prd; apply p_indexAddrS; (case hx => rfl); (case hi => rfl); (case h0 => omega); (case h => omega); (case hA => (apply_assumption; omega)))); (case hq => kernel_rfl))
    all_goals (apply dtk 7; (case hi => rfl); (case hop => ((apply r_load1; rfl; exact Cell.frozen (hel' _ (by omega))))); (case hq => kernel_rfl))
    all_goals (apply dtk 8; (case hi => rfl); (case hop => (apply prd; apply p_ne <;> rfl)); (case hq => kernel_rfl))
    all_goals (apply d_done; (case hr => kernel_rfl))
    repeat' (first | apply v_seq | apply v_region | apply v_nil | apply v_skip | apply v_blk | (apply v_pure; (case hop => first | (apply p_move <;> rfl) | (apply p_assign <;> rfl) | (apply p_add; (case hx => rfl); (case hy => rfl); (case h => omega)) | fail); (case hd => rfl)) | (apply v_cond; (case hc => rfl); all_goals (intro h; (try simp only [reduceCtorEq, zzz] at h))) | fail)
    · refine v_ret [] (outsA1 rfl rfl) (by repeat (exact List.Sublist.refl _)) ?_
      refine ⟨?_, rfl, rfl⟩
      rw [intsB, decide_eq_false]
      intro e
      subst e
      contradiction
    · refine v_again rfl ⟨rfl, rfl, k + 1, by omega, rfl, fun i h h' hi => ?_⟩ (by simp [headI]; omega)
      by_cases hik : i = k
      · subst hik; assumption
      · exact hno i h h' (by omega)
  · refine v_ret [] (outsA1 rfl rfl) (by repeat (exact List.Sublist.refl _)) ?_
    refine ⟨?_, rfl, rfl⟩
    rw [intsB, decide_eq_true]
    exact List.ext_getElem hab fun i h h' => hno i h h' (by omega)
def largeB (l : List Co) : Bool := ((l.take 40).any fun x => decide (40 < x.2.length)) || decide (40 < l.length)
theorem largeB_no {l : List Co} (h : largeB l = false) : l.length ≤ 40 ∧ ∀ x ∈ l, x.2.length ≤ 40 := by
  unfold largeB at h
  rw [Bool.or_eq_false_iff, decide_eq_false_iff_not] at h
  have h2 : l.length ≤ 40 := by omega
  rw [List.take_of_length_le h2, List.any_eq_false] at h
  exact ⟨h2, fun x hx => by have := h.1 x hx; simp at this; exact this⟩
theorem large_s {G : GH} {l : List Co} {sv : Value} (hs : Cos G sv l) : Con Tryz.prog 77 #[sv] G [] (Just (.bool (largeB l)) G) := by
  obtain ⟨A, c, mA, mc, rfl, hlc, hcm, hsome, hcp, hc0, hc1, hmv, hwf⟩ := coOpen hs
  simp only [maxLen] at hcm
  (refine v_enter Tryz.func77 rfl Tryz.ntmps77 rfl ?_; intro B _)
  repeat' (first | apply v_seq | apply v_region | apply v_nil | apply v_block | (apply v_pure; (case hop => (apply p_assign <;> rfl)); (case hd => rfl)) | fail)
  refine v_loop [3, 0] (fun us G' μ' => G' = G ∧ μ' = [] ∧ ∃ k, k ≤ l.length ∧ k ≤ 40 ∧ us = [Value.int .i64 (k : Nat), .slice A l.length c] ∧ ∀ i (h : i < l.length), i < k → l[i].2.length ≤ 40) (fun us => l.length - (headI us).toNat) rfl ⟨rfl, rfl, 0, by omega, by omega, rfl, by omega⟩ ?_
  rintro us G' μ' ⟨rfl, rfl, k, hk, hk', rfl, hno⟩
  repeat' (first | apply v_seq | apply v_region | apply v_nil | apply v_skip | apply v_block | apply v_blk | (apply v_exit; (case hp => rfl)) | (apply v_take; (case hg => rfl)) | (apply v_pass; (case hg => rfl); (case hn => rfl); (case hd => rfl)) | (apply v_pure; (case hop => first | (apply p_move <;> rfl) | (apply p_lt <;> rfl) | (apply p_gt <;> rfl) | (apply p_assign <;> rfl) | (apply p_pickT <;> rfl) | (apply p_pickF <;> rfl) | (apply p_lenSlice <;> rfl) | (apply p_fieldAddr <;> rfl) | (apply p_add; (case hx => rfl); (case hy => rfl); (case h => omega)) | (apply p_indexAddrS; (case hx => rfl); (case hi => rfl); (case h0 => omega); (case h => omega); (case hA => (apply_assumption; omega))) | fail); (case hd => rfl)) | (apply v_condF; (case hc => rfl)) | (apply v_cond; (case hc => rfl); all_goals (intro h; (try simp only [reduceCtorEq, zzz] at h))) | (apply v_guardB; (case h1 => rfl); (case h2 => rfl); all_goals (intro h; (try simp only [reduceCtorEq, zzz] at h))) | (apply v_read; (case hop => (apply r_load1; rfl; exact Cell.frozen (hc1 _ (by omega)))); (case hd => rfl)) | fail)
  · refine v_ret [] (outsA1 rfl rfl) (by repeat (exact List.Sublist.refl _)) ?_
    refine ⟨?_, rfl, rfl⟩
    have : ((l.take 40).any fun x => decide (40 < x.2.length)) = true := by
      rw [List.any_eq_true]
      refine ⟨l[k], ?_, by simp only [Int.toNat_natCast] at *; rw [decide_eq_true_eq]; omega⟩
      rw [List.mem_take_iff_getElem]
      exact ⟨k, by omega, rfl⟩
    rw [largeB, this, Bool.true_or]
  · refine v_again rfl ⟨rfl, rfl, k + 1, by omega, by omega, rfl, fun i h hi => ?_⟩ (by simp [headI]; omega)
    by_cases hik : i = k
    · subst hik; simp only [Int.toNat_natCast] at *; omega
    · exact hno i h (by omega)
  all_goals
    refine v_ret [] (outsA1 rfl rfl) (by repeat (exact List.Sublist.refl _)) ?_
    refine ⟨?_, rfl, rfl⟩
    have : ((l.take 40).any fun x => decide (40 < x.2.length)) = false := by
      rw [List.any_eq_false]
      intro x hx
      rw [List.mem_take_iff_getElem] at hx
      obtain ⟨i, hi, rfl⟩ := hx
      have := hno i (by omega) (by omega)
      simp; omega
    rw [largeB, this, Bool.false_or]
    congr 1
    rw [dec_eq, decide_eq_decide]; omega
def MemOK (m : List Int) : Prop := 0 < m.length ∧ ∀ k (h : k < m.length), 1 ≤ m[k] ∧ m[k] ≤ 9 ∧ (0 < k → m[k - 1] < m[k])
def ConfOK (l : List Co) : Prop := (∃ h : 0 < l.length, l[0].1 = 1) ∧ ∀ i (h : i < l.length), MemOK l[i].2 ∧ l[i].1 ≤ 4294967296 ∧ (0 < i → l[i - 1].1 < l[i].1)
noncomputable instance (m : List Int) : Decidable (MemOK m) := Classical.propDecidable _
noncomputable instance (l : List Co) : Decidable (ConfOK l) := Classical.propDecidable _
theorem members_s {G : GH} {l : List Int} {sv : Value} (hs : Sl G 1 (IntR .i64) sv l) : Con Tryz.prog 151 #[sv] G [] (Just (.bool (decide (MemOK l))) G) := by
  obtain ⟨A, c, rfl, hlc, hcm, hsome, hel, _⟩ := hs.openInt
  simp only [maxLen] at hcm
  (refine v_enter Tryz.func151 rfl Tryz.ntmps151 rfl ?_; intro B _)
  repeat' (first | apply v_seq | apply v_region | apply v_nil | apply v_block | (apply v_pure; (case hop => first | (apply p_move <;> rfl) | (apply p_assign <;> rfl) | (apply p_lenSlice <;> rfl) | fail); (case hd => rfl)) | fail)
  refine v_loop [7, 6, 5, 0] (fun us G' μ' => G' = G ∧ μ' = [] ∧ ∃ k, k ≤ l.length ∧ us = [Value.int .i64 (k : Nat), .int .i64 l.length, .slice A l.length c, .slice A l.length c] ∧ ∀ i (h : i < l.length), i < k → 1 ≤ l[i] ∧ l[i] ≤ 9 ∧ (0 < i → l[i - 1] < l[i])) (fun us => l.length - (headI us).toNat) rfl ⟨rfl, rfl, 0, by omega, rfl, by omega⟩ ?_
  rintro us G' μ' ⟨rfl, rfl, k, hk, rfl, hno⟩
  repeat' (first | apply v_seq | apply v_region | apply v_nil | apply v_skip | apply v_block | apply v_blk | (apply v_exit; (case hp => rfl)) | (apply v_take; (case hg => rfl)) | (apply v_pass; (case hg => rfl); (case hn => rfl); (case hd => rfl)) | (apply v_passN; (case hg => rfl); (case hn => rfl); (case hd => rfl)) | (apply v_pure; (case hop => first | (apply p_move <;> rfl) | (apply p_lt <;> rfl) | (apply p_gt <;> rfl) | (apply p_le <;> rfl) | (apply p_assign <;> rfl) | (apply p_pickT <;> rfl) | (apply p_pickF <;> rfl) | (apply p_lenSlice <;> rfl) | (apply p_add; (case hx => rfl); (case hy => rfl); (case h => omega)) | (apply p_sub; (case hx => rfl); (case hy => rfl); (case h => omega)) | (apply p_indexAddrS; (case hx => rfl); (case hi => rfl); (case h0 => omega); (case h => omega); (case hA => (apply_assumption; omega))) | fail); (case hd => rfl)) | (apply v_condT; (case hc => rfl)) | (apply v_condF; (case hc => rfl)) | (apply v_cond; (case hc => rfl); all_goals (intro h; (try simp only [reduceCtorEq, zzz] at h))) | (apply v_guardB; (case h1 => rfl); (case h2 => rfl); all_goals (intro h; (try simp only [reduceCtorEq, zzz] at h))) | (apply v_read; (case hop => (apply r_load1; rfl; exact Cell.frozen (hel _ (by omega)))); (case hd => rfl)) | fail)
  all_goals have e1 : ((k : Nat) : Int).toNat = k := by omega
  all_goals have e2 : (((k : Nat) : Int) - 1).toNat = k - 1 := by omega
  all_goals try
    (refine v_ret [] (outsA1 rfl rfl) (by repeat (exact List.Sublist.refl _)) ?_
     refine ⟨?_, rfl, rfl⟩
     rw [decide_eq_false]
     rintro ⟨_, hm⟩
     have := hm k (by omega)
     simp only [e1, e2] at *
     omega)
  all_goals try
    (refine v_again rfl ⟨rfl, rfl, k + 1, by omega, rfl, fun i h hi => ?_⟩ (by simp [headI]; omega)
     by_cases hik : i = k
     · subst hik; simp only [e1, e2] at *; omega
     · exact hno i h (by omega))
  · refine v_ret [] (outsA1 rfl rfl) (by repeat (exact List.Sublist.refl _)) ?_
    refine ⟨?_, rfl, rfl⟩
    congr 1
    rw [dec_eq, decide_eq_decide]
    exact ⟨fun h => ⟨by omega, fun i h' => hno i h' (by omega)⟩, fun h => by have := h.1; omega⟩
theorem check_s {G : GH} {l : List Co} {sv : Value} (hs : Cos G sv l) : Con Tryz.prog 86 #[sv] G [] (Just (.int .i64 (if ConfOK l then 0 else 3)) G) := by
  obtain ⟨A, c, mA, mc, rfl, hlc, hcm, hsome, hcp, hc0, hc1, hmv, hwf⟩ := coOpen hs
  simp only [maxLen] at hcm
  (refine v_enter Tryz.func86 rfl Tryz.ntmps86 rfl ?_; intro B _)
  repeat' (first | apply v_seq | apply v_region | apply v_nil | apply v_skip | apply v_block | (apply v_take; (case hg => rfl)) | (apply v_pass; (case hg => rfl); (case hn => rfl); (case hd => rfl)) | (apply v_pure; (case hop => first | (apply p_move <;> rfl) | (apply p_eq <;> rfl) | (apply p_ne <;> rfl) | (apply p_assign <;> rfl) | (apply p_pickT <;> rfl) | (apply p_pickF <;> rfl) | (apply p_lenSlice <;> rfl) | (apply p_fieldAddr <;> rfl) | (apply p_indexAddrS; (case hx => rfl); (case hi => rfl); (case h0 => omega); (case h => omega); (case hA => (apply_assumption; omega))) | fail); (case hd => rfl)) | (apply v_condT; (case hc => rfl)) | (apply v_cond; (case hc => rfl); all_goals (intro h; (try simp only [reduceCtorEq, zzz] at h))) | (apply v_guardB; (case h1 => rfl); (case h2 => rfl); all_goals (intro h; (try simp only [reduceCtorEq, zzz] at h))) | (apply v_read; (case hop => (apply r_load1; rfl; exact Cell.frozen (hc0 _ (by omega)))); (case hd => rfl)) | fail)
  · refine v_ret [] (outsA1 rfl rfl) (by repeat (exact List.Sublist.refl _)) ?_
    refine ⟨?_, rfl, rfl⟩
    rw [if_neg]
    rintro ⟨⟨h0, _⟩, _⟩
    omega
  · refine v_ret [] (outsA1 rfl rfl) (by repeat (exact List.Sublist.refl _)) ?_
    refine ⟨?_, rfl, rfl⟩
    rw [if_neg]
    rintro ⟨⟨_, h0⟩, _⟩
    contradiction
  refine v_loop [17, 16, 15, 0] (fun us G' μ' => G' = G ∧ μ' = [] ∧ ∃ k, k ≤ l.length ∧ us = [Value.int .i64 (k : Nat), .int .i64 l.length, .slice A l.length c, .slice A l.length c] ∧ ∀ i (h : i < l.length), i < k → MemOK l[i].2 ∧ l[i].1 ≤ 4294967296 ∧ (0 < i → l[i - 1].1 < l[i].1)) (fun us => l.length - (headI us).toNat) rfl ⟨rfl, rfl, 0, by omega, rfl, by omega⟩ ?_
  rintro us G' μ' ⟨rfl, rfl, k, hk, rfl, hno⟩
  have e1 : ((k : Nat) : Int).toNat = k := by omega
  have e2 : (((k : Nat) : Int) - 1).toNat = k - 1 := by omega
  repeat' (first | apply v_seq | apply v_region | apply v_nil | apply v_skip | apply v_block | (apply v_exit; (case hp => rfl)) | (apply v_pure; (case hop => first | (apply p_move <;> rfl) | (apply p_lt <;> rfl) | (apply p_assign <;> rfl) | (apply p_indexAddrS; (case hx => rfl); (case hi => rfl); (case h0 => omega); (case h => omega); (case hA => (apply_assumption; omega))) | fail); (case hd => rfl)) | (apply v_cond; (case hc => rfl); all_goals (intro h; (try simp only [reduceCtorEq, zzz] at h))) | (apply v_read; (case hop => (apply r_loadN; rfl; exact CellsAt.frozen (hcp _ (by omega)); rfl)); (case hd => rfl)) | (apply v_alloc; (case hz => rfl); (case hd => rfl); intro b) | (apply v_store; (case hp => rfl); (case hx => rfl); (case hc => rfl); (case hsz => rfl); (case h1 => rfl); (case hb => (repeat (exact mhd _))); (case hfit => exact nle rfl); (case hov => ((repeat (first | with_reducible exact ov_nil | apply ov_cons)); done)); (case hu => repeat (exact Upd.here _ _))) | fail)
  · have hlt : k < l.length := by omega
    refine d_start _ (by kernel_rfl) (by kernel_rfl) (by kernel_rfl) (fun _ he => he) ?_
    all_goals (apply dtk 0; (case hi => rfl); (case hop => (apply prd; apply p_fieldAddrB <;> rfl)); (case hq => kernel_rfl))
    all_goals (apply dtk 1; (case hi => rfl); (case hop => (apply r_load1; rfl; (apply Cell.own; (case h => (repeat (exact mhd _))); rfl))); (case hq => kernel_rfl))
    all_goals (apply d_callJ 2 (hs := (members_s (hmv _ hlt))); (case hi => rfl); (case hr => kernel_rfl); (case ha => rfl); (case hd => rfl))
    all_goals (apply dtk 3; (case hi => rfl); (case hop => (apply prd; apply p_not <;> rfl)); (case hq => kernel_rfl))
    all_goals (apply dtk 4; (case hi => rfl); (case hop => (apply prd; apply p_move <;> rfl)); (case hq => kernel_rfl))
    all_goals (try (apply d_guardB 5; (case hi => rfl); (case hgd => rfl); (case h1 => rfl); (case h2 => rfl); all_goals (intro h; (try simp only [reduceCtorEq, zzz] at h))))
    all_goals (first | (apply dpa 5; (case hi => rfl); (case hg => rfl); (case hn => rfl); (case hq => kernel_rfl)) | (apply dtg 5; (case hi => rfl); (case hg => rfl); (case hop => (apply prd; apply p_fieldAddrB <;> rfl)); (case hq => kernel_rfl)) | fail)
    all_goals (try (apply d_guardB 6; (case hi => rfl); (case hgd => rfl); (case h1 => rfl); (case h2 => rfl); all_goals (intro h; (try simp only [reduceCtorEq, zzz] at h))))
    all_goals (first | (apply dpa 6; (case hi => rfl); (case hg => rfl); (case hn => rfl); (case hq => kernel_rfl)) | (apply dtg 6; (case hi => rfl); (case hg => rfl); (case hop => (apply r_load1; rfl; (apply Cell.own; (case h => (repeat (exact mhd _))); rfl))); (case hq => kernel_rfl)) | fail)
    all_goals (try (apply d_guardB 7; (case hi => rfl); (case hgd => rfl); (case h1 => rfl); (case h2 => rfl); all_goals (intro h; (try simp only [reduceCtorEq, zzz] at h))))
    all_goals (first | (apply dpa 7; (case hi => rfl); (case hg => rfl); (case hn => rfl); (case hq => kernel_rfl)) | (apply dtg 7; (case hi => rfl); (case hg => rfl); (case hop => (apply prd; apply p_gt <;> rfl)); (case hq => kernel_rfl)) | fail)
    all_goals (apply dtk 8; (case hi => rfl); (case hop => first | (apply prd; apply p_pickT <;> rfl) | (apply prd; apply p_pickF <;> rfl) | fail); (case hq => kernel_rfl))
    all_goals (apply dtk 9; (case hi => rfl); (case hop => (apply prd; apply p_move <;> rfl)); (case hq => kernel_rfl))
    all_goals (try (apply d_guardB 10; (case hi => rfl); (case hgd => rfl); (case h1 => rfl); (case h2 => rfl); all_goals (intro h; (try simp only [reduceCtorEq, zzz] at h))))
    all_goals (first | (apply dpa 10; (case hi => rfl); (case hg => rfl); (case hn => rfl); (case hq => kernel_rfl)) | (apply dtg 10; (case hi => rfl); (case hg => rfl); (case hop => (apply prd; apply p_move <;> rfl)); (case hq => kernel_rfl)) | fail)
    all_goals (try (apply d_guardB 11; (case hi => rfl); (case hgd => rfl); (case h1 => rfl); (case h2 => rfl); all_goals (intro h; (try simp only [reduceCtorEq, zzz] at h))))
    all_goals (first | (apply dpa 11; (case hi => rfl); (case hg => rfl); (case hn => rfl); (case hq => kernel_rfl)) | (apply dtg 11; (case hi => rfl); (case hg => rfl); (case hop => (apply prd; apply p_gt <;> rfl)); (case hq => kernel_rfl)) | fail)
    all_goals (try (apply d_guardB 12; (case hi => rfl); (case hgd => rfl); (case h1 => rfl); (case h2 => rfl); all_goals (intro h; (try simp only [reduceCtorEq, zzz] at h))))
    all_goals (first | (apply dpa 12; (case hi => rfl); (case hg => rfl); (case hn => rfl); (case hq => kernel_rfl)) | (apply dtg 12; (case hi => rfl); (case hg => rfl); (case hop => (apply prd; apply p_move <;> rfl)); (case hq => kernel_rfl)) | fail)
    all_goals (try (apply d_guardB 13; (case hi => rfl); (case hgd => rfl); (case h1 => rfl); (case h2 => rfl); all_goals (intro h; (try simp only [reduceCtorEq, zzz] at h))))
    all_goals (first | (apply dpa 13; (case hi => rfl); (case hg => rfl); (case hn => rfl); (case hq => kernel_rfl)) | (apply dpn 13; (case hi => rfl); (case hg => rfl); (case hn => rfl); (case hq => kernel_rfl)) | (apply dtg 13; (case hi => rfl); (case hg => rfl); (case hop => (apply prd; apply p_fieldAddrB <;> rfl)); (case hq => kernel_rfl)) | fail)
    all_goals (try (apply d_guardB 14; (case hi => rfl); (case hgd => rfl); (case h1 => rfl); (case h2 => rfl); all_goals (intro h; (try simp only [reduceCtorEq, zzz] at h))))
    all_goals (first | (apply dpa 14; (case hi => rfl); (case hg => rfl); (case hn => rfl); (case hq => kernel_rfl)) | (apply dpn 14; (case hi => rfl); (case hg => rfl); (case hn => rfl); (case hq => kernel_rfl)) | (apply dtg 14; (case hi => rfl); (case hg => rfl); (case hop => (apply r_load1; rfl; (apply Cell.own; (case h => (repeat (exact mhd _))); rfl))); (case hq => kernel_rfl)) | fail)
    all_goals (try (apply d_guardB 15; (case hi => rfl); (case hgd => rfl); (case h1 => rfl); (case h2 => rfl); all_goals (intro h; (try simp only [reduceCtorEq, zzz] at h))))
    all_goals (first | (apply dpa 15; (case hi => rfl); (case hg => rfl); (case hn => rfl); (case hq => kernel_rfl)) | (apply dpn 15; (case hi => rfl); (case hg => rfl); (case hn => rfl); (case hq => kernel_rfl)) | (apply dtg 15; (case hi => rfl); (case hg => rfl); (case hop => (apply prd; apply p_move <;> rfl)); (case hq => kernel_rfl)) | fail)
    all_goals (try (apply d_guardB 16; (case hi => rfl); (case hgd => rfl); (case h1 => rfl); (case h2 => rfl); all_goals (intro h; (try simp only [reduceCtorEq, zzz] at h))))
    all_goals (first | (apply dpa 16; (case hi => rfl); (case hg => rfl); (case hn => rfl); (case hq => kernel_rfl)) | (apply dpn 16; (case hi => rfl); (case hg => rfl); (case hn => rfl); (case hq => kernel_rfl)) | (apply dtg 16; (case hi => rfl); (case hg => rfl); (case hop => (apply prd; apply p_move <;> rfl)); (case hq => kernel_rfl)) | fail)
    all_goals (try (apply d_guardB 17; (case hi => rfl); (case hgd => rfl); (case h1 => rfl); (case h2 => rfl); all_goals (intro h; (try simp only [reduceCtorEq, zzz] at h))))
    all_goals (first | (apply dpa 17; (case hi => rfl); (case hg => rfl); (case hn => rfl); (case hq => kernel_rfl)) | (apply dpn 17; (case hi => rfl); (case hg => rfl); (case hn => rfl); (case hq => kernel_rfl)) | (apply dtg 17; (case hi => rfl); (case hg => rfl); (case hop => (apply prd; apply p_sub; (case hx => rfl); (case hy => rfl); (case h => omega))); (case hq => kernel_rfl)) | fail)
    all_goals (try (apply d_guardB 18; (case hi => rfl); (case hgd => rfl); (case h1 => rfl); (case h2 => rfl); all_goals (intro h; (try simp only [reduceCtorEq, zzz] at h))))
    all_goals (first | (apply dpa 18; (case hi => rfl); (case hg => rfl); (case hn => rfl); (case hq => kernel_rfl)) | (apply dpn 18; (case hi => rfl); (case hg => rfl); (case hn => rfl); (case hq => kernel_rfl)) | (apply dtg 18; (case hi => rfl); (case hg => rfl); (case hop => (apply prd; apply p_indexAddrS; (case hx => rfl); (case hi => rfl); (case h0 => omega); (case h => omega); (case hA => (apply_assumption; omega)))); (case hq => kernel_rfl)) | fail)
    all_goals (try (apply d_guardB 19; (case hi => rfl); (case hgd => rfl); (case h1 => rfl); (case h2 => rfl); all_goals (intro h; (try simp only [reduceCtorEq, zzz] at h))))
    all_goals (first | (apply dpa 19; (case hi => rfl); (case hg => rfl); (case hn => rfl); (case hq => kernel_rfl)) | (apply dpn 19; (case hi => rfl); (case hg => rfl); (case hn => rfl); (case hq => kernel_rfl)) | (apply dtg 19; (case hi => rfl); (case hg => rfl); (case hop => (apply prd; apply p_fieldAddr <;> rfl)); (case hq => kernel_rfl)) | fail)
    all_goals (try (apply d_guardB 20; (case hi => rfl); (case hgd => rfl); (case h1 => rfl); (case h2 => rfl); all_goals (intro h; (try simp only [reduceCtorEq, zzz] at h))))
    all_goals (first | (apply dpa 20; (case hi => rfl); (case hg => rfl); (case hn => rfl); (case hq => kernel_rfl)) | (apply dpn 20; (case hi => rfl); (case hg => rfl); (case hn => rfl); (case hq => kernel_rfl)) | (apply dtg 20; (case hi => rfl); (case hg => rfl); (case hop => ((apply r_load1; rfl; exact Cell.frozen (hc0 _ (by omega))))); (case hq => kernel_rfl)) | fail)
    all_goals (try (apply d_guardB 21; (case hi => rfl); (case hgd => rfl); (case h1 => rfl); (case h2 => rfl); all_goals (intro h; (try simp only [reduceCtorEq, zzz] at h))))
    all_goals (first | (apply dpa 21; (case hi => rfl); (case hg => rfl); (case hn => rfl); (case hq => kernel_rfl)) | (apply dpn 21; (case hi => rfl); (case hg => rfl); (case hn => rfl); (case hq => kernel_rfl)) | (apply dtg 21; (case hi => rfl); (case hg => rfl); (case hop => (apply prd; apply p_le <;> rfl)); (case hq => kernel_rfl)) | fail)
    all_goals (try (apply d_guardB 22; (case hi => rfl); (case hgd => rfl); (case h1 => rfl); (case h2 => rfl); all_goals (intro h; (try simp only [reduceCtorEq, zzz] at h))))
    all_goals (first | (apply dpa 22; (case hi => rfl); (case hg => rfl); (case hn => rfl); (case hq => kernel_rfl)) | (apply dtg 22; (case hi => rfl); (case hg => rfl); (case hop => first | (apply prd; apply p_pickT <;> rfl) | (apply prd; apply p_pickF <;> rfl) | fail); (case hq => kernel_rfl)) | fail)
    all_goals (apply dtk 23; (case hi => rfl); (case hop => first | (apply prd; apply p_pickT <;> rfl) | (apply prd; apply p_pickF <;> rfl) | fail); (case hq => kernel_rfl))
    all_goals (apply d_done; (case hr => kernel_rfl))
    repeat' (first | apply v_seq | apply v_region | apply v_nil | apply v_skip | apply v_blk | (apply v_pure; (case hop => first | (apply p_move <;> rfl) | (apply p_assign <;> rfl) | (apply p_add; (case hx => rfl); (case hy => rfl); (case h => omega)) | fail); (case hd => rfl)) | (apply v_condT; (case hc => rfl)) | (apply v_condF; (case hc => rfl)) | (apply v_cond; (case hc => rfl); all_goals (intro h; (try simp only [reduceCtorEq, zzz] at h))) | fail)
    all_goals try
      (refine v_ret [] (outsA1 rfl rfl) (by repeat (first | exact List.Sublist.refl _ | exact List.nil_sublist _ | fail)) ?_
       refine ⟨?_, rfl, rfl⟩
       rw [if_neg]
       rintro ⟨_, hm⟩
       obtain ⟨q1, q2, q3⟩ := hm k (by omega)
       simp only [e1, e2] at *
       first | contradiction | omega)
    all_goals
      (refine v_drop (ν := []) (by repeat (exact List.nil_sublist _)) ?_
       refine v_again rfl ⟨rfl, rfl, k + 1, by omega, rfl, fun i h hi => ?_⟩ (by simp [headI]; omega)
       by_cases hik : i = k
       · subst hik
         simp only [e1, e2] at *
         exact ⟨by assumption, by omega, by omega⟩
       · exact hno i h (by omega))
  · refine v_ret [] (outsA1 rfl rfl) (by repeat (exact List.Sublist.refl _)) ?_
    refine ⟨?_, rfl, rfl⟩
    rw [if_pos ⟨⟨by omega, by assumption⟩, fun i h => hno i h (by omega)⟩]
set_option maxHeartbeats 1000000 in
theorem refConfCheck_s {G : GH} {l : List Co} {sv : Value} (hs : Cos G sv l) : Con Tryz.prog 30 #[sv] G [] (Just (.bool (decide (ConfOK l))) G) := by
  obtain ⟨A, c, mA, mc, rfl, hlc, hcm, hsome, hcp, hc0, hc1, hmv, hwf⟩ := coOpen hs
  simp only [maxLen] at hcm
  (refine v_enter Tryz.func30 rfl Tryz.ntmps30 rfl ?_; intro B _)
  repeat' (first | apply v_seq | apply v_region | apply v_nil | apply v_skip | apply v_block | (apply v_take; (case hg => rfl)) | (apply v_pass; (case hg => rfl); (case hn => rfl); (case hd => rfl)) | (apply v_pure; (case hop => first | (apply p_move <;> rfl) | (apply p_eq <;> rfl) | (apply p_ne <;> rfl) | (apply p_assign <;> rfl) | (apply p_pickT <;> rfl) | (apply p_pickF <;> rfl) | (apply p_lenSlice <;> rfl) | (apply p_fieldAddr <;> rfl) | (apply p_indexAddrS; (case hx => rfl); (case hi => rfl); (case h0 => omega); (case h => omega); (case hA => (apply_assumption; omega))) | fail); (case hd => rfl)) | (apply v_condT; (case hc => rfl)) | (apply v_cond; (case hc => rfl); all_goals (intro h; (try simp only [reduceCtorEq, zzz] at h))) | (apply v_guardB; (case h1 => rfl); (case h2 => rfl); all_goals (intro h; (try simp only [reduceCtorEq, zzz] at h))) | (apply v_read; (case hop => (apply r_load1; rfl; exact Cell.frozen (hc0 _ (by omega)))); (case hd => rfl)) | fail)
  · refine v_ret [] (outsA1 rfl rfl) (by repeat (exact List.Sublist.refl _)) ?_
    refine ⟨?_, rfl, rfl⟩
    rw [decide_eq_false]
    rintro ⟨⟨h0, _⟩, _⟩
    omega
  · refine v_ret [] (outsA1 rfl rfl) (by repeat (exact List.Sublist.refl _)) ?_
    refine ⟨?_, rfl, rfl⟩
    rw [decide_eq_false]
    rintro ⟨⟨_, h0⟩, _⟩
    contradiction
  refine v_loop [3, 0] (fun us G' μ' => G' = G ∧ μ' = [] ∧ ∃ k, k ≤ l.length ∧ us = [Value.int .i64 (k : Nat), .slice A l.length c] ∧ ∀ i (h : i < l.length), i < k → MemOK l[i].2 ∧ l[i].1 ≤ 4294967296 ∧ (0 < i → l[i - 1].1 < l[i].1)) (fun us => l.length - (headI us).toNat) rfl ⟨rfl, rfl, 0, by omega, rfl, by omega⟩ ?_
  rintro us G' μ' ⟨rfl, rfl, k, hk, rfl, hno⟩
  have e1 : ((k : Nat) : Int).toNat = k := by omega
  have e2 : (((k : Nat) : Int) - 1).toNat = k - 1 := by omega
  repeat' (first | apply v_seq | apply v_region | apply v_nil | apply v_skip | apply v_block | (apply v_exit; (case hp => rfl)) | (apply v_pure; (case hop => first | (apply p_move <;> rfl) | (apply p_lt <;> rfl) | (apply p_assign <;> rfl) | (apply p_lenSlice <;> rfl) | (apply p_fieldAddr <;> rfl) | (apply p_indexAddrS; (case hx => rfl); (case hi => rfl); (case h0 => omega); (case h => omega); (case hA => (apply_assumption; omega))) | fail); (case hd => rfl)) | (apply v_cond; (case hc => rfl); all_goals (intro h; (try simp only [reduceCtorEq, zzz] at h))) | (apply v_read; (case hop => (apply r_load1; rfl; exact Cell.frozen (hc1 _ (by omega)))); (case hd => rfl)) | fail)
  · have hlt : k < l.length := by omega
    refine d_start [] (by kernel_rfl) (by kernel_rfl) (by kernel_rfl) (by intro e he; exact he) ?_
    all_goals (apply dtk 0; (case hi => rfl); (case hop => (apply prd; apply p_move <;> rfl)); (case hq => kernel_rfl))
    all_goals (apply dtk 1; (case hi => rfl); (case hop => (apply prd; apply p_lenSlice <;> rfl)); (case hq => kernel_rfl))
    all_goals (apply dtk 2; (case hi => rfl); (case hop => (apply prd; apply p_eq <;> rfl)); (case hq => kernel_rfl))
    all_goals (apply dtk 3; (case hi => rfl); (case hop => (apply prd; apply p_move <;> rfl)); (case hq => kernel_rfl))
    all_goals (try (apply d_guardB 4; (case hi => rfl); (case hgd => rfl); (case h1 => rfl); (case h2 => rfl); all_goals (intro h; (try simp only [reduceCtorEq, zzz] at h))))
    all_goals (first | (apply dpa 4; (case hi => rfl); (case hg => rfl); (case hn => rfl); (case hq => kernel_rfl)) | (apply dtg 4; (case hi => rfl); (case hg => rfl); (case hop => (apply prd; apply p_move <;> rfl)); (case hq => kernel_rfl)) | fail)
    all_goals (try (apply d_guardB 5; (case hi => rfl); (case hgd => rfl); (case h1 => rfl); (case h2 => rfl); all_goals (intro h; (try simp only [reduceCtorEq, zzz] at h))))
    all_goals (first | (apply dpa 5; (case hi => rfl); (case hg => rfl); (case hn => rfl); (case hq => kernel_rfl)) | (apply dtg 5; (case hi => rfl); (case hg => rfl); (case hop => (apply prd; apply p_move <;> rfl)); (case hq => kernel_rfl)) | fail)
    all_goals (try (apply d_guardB 6; (case hi => rfl); (case hgd => rfl); (case h1 => rfl); (case h2 => rfl); all_goals (intro h; (try simp only [reduceCtorEq, zzz] at h))))
    all_goals (first | (apply dpa 6; (case hi => rfl); (case hg => rfl); (case hn => rfl); (case hq => kernel_rfl)) | (apply dtg 6; (case hi => rfl); (case hg => rfl); (case hop => (apply prd; apply p_indexAddrS; (case hx => rfl); (case hi => rfl); (case h0 => omega); (case h => omega); (case hA => (apply_assumption; omega)))); (case hq => kernel_rfl)) | fail)
    all_goals (try (apply d_guardB 7; (case hi => rfl); (case hgd => rfl); (case h1 => rfl); (case h2 => rfl); all_goals (intro h; (try simp only [reduceCtorEq, zzz] at h))))
    all_goals (first | (apply dpa 7; (case hi => rfl); (case hg => rfl); (case hn => rfl); (case hq => kernel_rfl)) | (apply dtg 7; (case hi => rfl); (case hg => rfl); (case hop => (apply prd; apply p_fieldAddr <;> rfl)); (case hq => kernel_rfl)) | fail)
    all_goals (try (apply d_guardB 8; (case hi => rfl); (case hgd => rfl); (case h1 => rfl); (case h2 => rfl); all_goals (intro h; (try simp only [reduceCtorEq, zzz] at h))))
    all_goals (first | (apply dpa 8; (case hi => rfl); (case hg => rfl); (case hn => rfl); (case hq => kernel_rfl)) | (apply dtg 8; (case hi => rfl); (case hg => rfl); (case hop => ((apply r_load1; rfl; exact Cell.frozen (hc0 _ (by omega))))); (case hq => kernel_rfl)) | fail)
    all_goals (try (apply d_guardB 9; (case hi => rfl); (case hgd => rfl); (case h1 => rfl); (case h2 => rfl); all_goals (intro h; (try simp only [reduceCtorEq, zzz] at h))))
    all_goals (first | (apply dpa 9; (case hi => rfl); (case hg => rfl); (case hn => rfl); (case hq => kernel_rfl)) | (apply dtg 9; (case hi => rfl); (case hg => rfl); (case hop => (apply prd; apply p_gt <;> rfl)); (case hq => kernel_rfl)) | fail)
    all_goals (apply dtk 10; (case hi => rfl); (case hop => first | (apply prd; apply p_pickT <;> rfl) | (apply prd; apply p_pickF <;> rfl) | fail); (case hq => kernel_rfl))
    all_goals (apply dtk 11; (case hi => rfl); (case hop => (apply prd; apply p_move <;> rfl)); (case hq => kernel_rfl))
    all_goals (try (apply d_guardB 12; (case hi => rfl); (case hgd => rfl); (case h1 => rfl); (case h2 => rfl); all_goals (intro h; (try simp only [reduceCtorEq, zzz] at h))))
    all_goals (first | (apply dpa 12; (case hi => rfl); (case hg => rfl); (case hn => rfl); (case hq => kernel_rfl)) | (apply dtg 12; (case hi => rfl); (case hg => rfl); (case hop => (apply prd; apply p_move <;> rfl)); (case hq => kernel_rfl)) | fail)
    all_goals (try (apply d_guardB 13; (case hi => rfl); (case hgd => rfl); (case h1 => rfl); (case h2 => rfl); all_goals (intro h; (try simp only [reduceCtorEq, zzz] at h))))
    all_goals (first | (apply dpa 13; (case hi => rfl); (case hg => rfl); (case hn => rfl); (case hq => kernel_rfl)) | (apply dtg 13; (case hi => rfl); (case hg => rfl); (case hop => (apply prd; apply p_gt <;> rfl)); (case hq => kernel_rfl)) | fail)
    all_goals (try (apply d_guardB 14; (case hi => rfl); (case hgd => rfl); (case h1 => rfl); (case h2 => rfl); all_goals (intro h; (try simp only [reduceCtorEq, zzz] at h))))
    all_goals (first | (apply dpa 14; (case hi => rfl); (case hg => rfl); (case hn => rfl); (case hq => kernel_rfl)) | (apply dtg 14; (case hi => rfl); (case hg => rfl); (case hop => (apply prd; apply p_move <;> rfl)); (case hq => kernel_rfl)) | fail)
    all_goals (try (apply d_guardB 15; (case hi => rfl); (case hgd => rfl); (case h1 => rfl); (case h2 => rfl); all_goals (intro h; (try simp only [reduceCtorEq, zzz] at h))))
    all_goals (first | (apply dpa 15; (case hi => rfl); (case hg => rfl); (case hn => rfl); (case hq => kernel_rfl)) | (apply dpn 15; (case hi => rfl); (case hg => rfl); (case hn => rfl); (case hq => kernel_rfl)) | (apply dtg 15; (case hi => rfl); (case hg => rfl); (case hop => (apply prd; apply p_move <;> rfl)); (case hq => kernel_rfl)) | fail)
    all_goals (try (apply d_guardB 16; (case hi => rfl); (case hgd => rfl); (case h1 => rfl); (case h2 => rfl); all_goals (intro h; (try simp only [reduceCtorEq, zzz] at h))))
    all_goals (first | (apply dpa 16; (case hi => rfl); (case hg => rfl); (case hn => rfl); (case hq => kernel_rfl)) | (apply dpn 16; (case hi => rfl); (case hg => rfl); (case hn => rfl); (case hq => kernel_rfl)) | (apply dtg 16; (case hi => rfl); (case hg => rfl); (case hop => (apply prd; apply p_move <;> rfl)); (case hq => kernel_rfl)) | fail)
    all_goals (try (apply d_guardB 17; (case hi => rfl); (case hgd => rfl); (case h1 => rfl); (case h2 => rfl); all_goals (intro h; (try simp only [reduceCtorEq, zzz] at h))))
    all_goals (first | (apply dpa 17; (case hi => rfl); (case hg => rfl); (case hn => rfl); (case hq => kernel_rfl)) | (apply dpn 17; (case hi => rfl); (case hg => rfl); (case hn => rfl); (case hq => kernel_rfl)) | (apply dtg 17; (case hi => rfl); (case hg => rfl); (case hop => (apply prd; apply p_indexAddrS; (case hx => rfl); (case hi => rfl); (case h0 => omega); (case h => omega); (case hA => (apply_assumption; omega)))); (case hq => kernel_rfl)) | fail)
    all_goals (try (apply d_guardB 18; (case hi => rfl); (case hgd => rfl); (case h1 => rfl); (case h2 => rfl); all_goals (intro h; (try simp only [reduceCtorEq, zzz] at h))))
    all_goals (first | (apply dpa 18; (case hi => rfl); (case hg => rfl); (case hn => rfl); (case hq => kernel_rfl)) | (apply dpn 18; (case hi => rfl); (case hg => rfl); (case hn => rfl); (case hq => kernel_rfl)) | (apply dtg 18; (case hi => rfl); (case hg => rfl); (case hop => (apply prd; apply p_fieldAddr <;> rfl)); (case hq => kernel_rfl)) | fail)
    all_goals (try (apply d_guardB 19; (case hi => rfl); (case hgd => rfl); (case h1 => rfl); (case h2 => rfl); all_goals (intro h; (try simp only [reduceCtorEq, zzz] at h))))
    all_goals (first | (apply dpa 19; (case hi => rfl); (case hg => rfl); (case hn => rfl); (case hq => kernel_rfl)) | (apply dpn 19; (case hi => rfl); (case hg => rfl); (case hn => rfl); (case hq => kernel_rfl)) | (apply dtg 19; (case hi => rfl); (case hg => rfl); (case hop => ((apply r_load1; rfl; exact Cell.frozen (hc0 _ (by omega))))); (case hq => kernel_rfl)) | fail)
    all_goals (try (apply d_guardB 20; (case hi => rfl); (case hgd => rfl); (case h1 => rfl); (case h2 => rfl); all_goals (intro h; (try simp only [reduceCtorEq, zzz] at h))))
    all_goals (first | (apply dpa 20; (case hi => rfl); (case hg => rfl); (case hn => rfl); (case hq => kernel_rfl)) | (apply dpn 20; (case hi => rfl); (case hg => rfl); (case hn => rfl); (case hq => kernel_rfl)) | (apply dtg 20; (case hi => rfl); (case hg => rfl); (case hop => (apply prd; apply p_move <;> rfl)); (case hq => kernel_rfl)) | fail)
    all_goals (try (apply d_guardB 21; (case hi => rfl); (case hgd => rfl); (case h1 => rfl); (case h2 => rfl); all_goals (intro h; (try simp only [reduceCtorEq, zzz] at h))))
    all_goals (first | (apply dpa 21; (case hi => rfl); (case hg => rfl); (case hn => rfl); (case hq => kernel_rfl)) | (apply dpn 21; (case hi => rfl); (case hg => rfl); (case hn => rfl); (case hq => kernel_rfl)) | (apply dtg 21; (case hi => rfl); (case hg => rfl); (case hop => (apply prd; apply p_move <;> rfl)); (case hq => kernel_rfl)) | fail)
    all_goals (try (apply d_guardB 22; (case hi => rfl); (case hgd => rfl); (case h1 => rfl); (case h2 => rfl); all_goals (intro h; (try simp only [reduceCtorEq, zzz] at h))))
    all_goals (first | (apply dpa 22; (case hi => rfl); (case hg => rfl); (case hn => rfl); (case hq => kernel_rfl)) | (apply dpn 22; (case hi => rfl); (case hg => rfl); (case hn => rfl); (case hq => kernel_rfl)) | (apply dtg 22; (case hi => rfl); (case hg => rfl); (case hop => (apply prd; apply p_sub; (case hx => rfl); (case hy => rfl); (case h => omega))); (case hq => kernel_rfl)) | fail)
    all_goals (try (apply d_guardB 23; (case hi => rfl); (case hgd => rfl); (case h1 => rfl); (case h2 => rfl); all_goals (intro h; (try simp only [reduceCtorEq, zzz] at h))))
    all_goals (first | (apply dpa 23; (case hi => rfl); (case hg => rfl); (case hn => rfl); (case hq => kernel_rfl)) | (apply dpn 23; (case hi => rfl); (case hg => rfl); (case hn => rfl); (case hq => kernel_rfl)) | (apply dtg 23; (case hi => rfl); (case hg => rfl); (case hop => (apply prd; apply p_indexAddrS; (case hx => rfl); (case hi => rfl); (case h0 => omega); (case h => omega); (case hA => (apply_assumption; omega)))); (case hq => kernel_rfl)) | fail)
    all_goals (try (apply d_guardB 24; (case hi => rfl); (case hgd => rfl); (case h1 => rfl); (case h2 => rfl); all_goals (intro h; (try simp only [reduceCtorEq, zzz] at h))))
    all_goals (first | (apply dpa 24; (case hi => rfl); (case hg => rfl); (case hn => rfl); (case hq => kernel_rfl)) | (apply dpn 24; (case hi => rfl); (case hg => rfl); (case hn => rfl); (case hq => kernel_rfl)) | (apply dtg 24; (case hi => rfl); (case hg => rfl); (case hop => (apply prd; apply p_fieldAddr <;> rfl)); (case hq => kernel_rfl)) | fail)
    all_goals (try (apply d_guardB 25; (case hi => rfl); (case hgd => rfl); (case h1 => rfl); (case h2 => rfl); all_goals (intro h; (try simp only [reduceCtorEq, zzz] at h))))
    all_goals (first | (apply dpa 25; (case hi => rfl); (case hg => rfl); (case hn => rfl); (case hq => kernel_rfl)) | (apply dpn 25; (case hi => rfl); (case hg => rfl); (case hn => rfl); (case hq => kernel_rfl)) | (apply dtg 25; (case hi => rfl); (case hg => rfl); (case hop => ((apply r_load1; rfl; exact Cell.frozen (hc0 _ (by omega))))); (case hq => kernel_rfl)) | fail)
    all_goals (try (apply d_guardB 26; (case hi => rfl); (case hgd => rfl); (case h1 => rfl); (case h2 => rfl); all_goals (intro h; (try simp only [reduceCtorEq, zzz] at h))))
    all_goals (first | (apply dpa 26; (case hi => rfl); (case hg => rfl); (case hn => rfl); (case hq => kernel_rfl)) | (apply dpn 26; (case hi => rfl); (case hg => rfl); (case hn => rfl); (case hq => kernel_rfl)) | (apply dtg 26; (case hi => rfl); (case hg => rfl); (case hop => (apply prd; apply p_le <;> rfl)); (case hq => kernel_rfl)) | fail)
    all_goals (try (apply d_guardB 27; (case hi => rfl); (case hgd => rfl); (case h1 => rfl); (case h2 => rfl); all_goals (intro h; (try simp only [reduceCtorEq, zzz] at h))))
    all_goals (first | (apply dpa 27; (case hi => rfl); (case hg => rfl); (case hn => rfl); (case hq => kernel_rfl)) | (apply dtg 27; (case hi => rfl); (case hg => rfl); (case hop => first | (apply prd; apply p_pickT <;> rfl) | (apply prd; apply p_pickF <;> rfl) | fail); (case hq => kernel_rfl)) | fail)
    all_goals (apply dtk 28; (case hi => rfl); (case hop => first | (apply prd; apply p_pickT <;> rfl) | (apply prd; apply p_pickF <;> rfl) | fail); (case hq => kernel_rfl))
    all_goals (apply d_done; (case hr => kernel_rfl))
    repeat' (first | apply v_seq | apply v_region | apply v_nil | apply v_skip | apply v_block | (apply v_pure; (case hop => (apply p_assign <;> rfl)); (case hd => rfl)) | (apply v_condT; (case hc => rfl)) | (apply v_condF; (case hc => rfl)) | (apply v_cond; (case hc => rfl); all_goals (intro h; (try simp only [reduceCtorEq, zzz] at h))) | fail)
    all_goals try
      (refine v_ret [] (outsA1 rfl rfl) (by repeat (exact List.Sublist.refl _)) ?_
       refine ⟨?_, rfl, rfl⟩
       rw [decide_eq_false]
       rintro ⟨_, hm⟩
       obtain ⟨⟨q1, q0⟩, q2, q3⟩ := hm k (by omega)
       simp only [e1, e2] at *
       omega)
    all_goals
      (have hne : ¬ ((l[k].2.length : Int) = 0) := by assumption
       obtain ⟨A', c', he, hlc', hcm', hsome', hel', _⟩ := (hmv k hlt).openInt
       injection he with ea _ ec
       subst ea
       subst ec
       simp only [maxLen] at hcm'
       refine v_loop [5, 4, 3, 0] (fun us G'' μ' => G'' = G' ∧ μ' = [] ∧ ∃ j, j ≤ l[k].2.length ∧ us = [Value.int .i64 (j : Nat), .slice (mA k) l[k].2.length (mc k), .int .i64 (k : Nat), .slice A l.length c] ∧ ∀ i (h : i < l[k].2.length), i < j → 1 ≤ l[k].2[i] ∧ l[k].2[i] ≤ 9 ∧ (0 < i → l[k].2[i - 1] < l[k].2[i])) (fun us => l[k].2.length - (headI us).toNat) rfl ⟨rfl, rfl, 0, by omega, rfl, by omega⟩ ?_
       rintro us G'' μ' ⟨rfl, rfl, j, hj, rfl, hin⟩
       have e3 : ((j : Nat) : Int).toNat = j := by omega
       have e4 : (((j : Nat) : Int) - 1).toNat = j - 1 := by omega
       repeat' (first | apply v_seq | apply v_region | apply v_nil | apply v_skip | apply v_block | apply v_blk | (apply v_exit; (case hp => rfl)) | (apply v_pure; (case hop => first | (apply p_move <;> rfl) | (apply p_lt <;> rfl) | (apply p_assign <;> rfl) | (apply p_lenSlice <;> rfl) | (apply p_add; (case hx => rfl); (case hy => rfl); (case h => omega)) | fail); (case hd => rfl)) | (apply v_cond; (case hc => rfl); all_goals (intro h; (try simp only [reduceCtorEq, zzz] at h))) | fail)
       · refine d_start [] (by kernel_rfl) (by kernel_rfl) (by kernel_rfl) (by intro e he; exact he) ?_
         all_goals (apply dtk 0; (case hi => rfl); (case hop => (apply prd; apply p_move <;> rfl)); (case hq => kernel_rfl))
         all_goals (apply dtk 1; (case hi => rfl); (case hop => (apply prd; apply p_move <;> rfl)); (case hq => kernel_rfl))
         all_goals (apply dtk 2; (case hi => rfl); (case hop => (apply prd; apply p_indexAddrS; (case hx => rfl); (case hi => rfl); (case h0 => omega); (case h => omega); (case hA => (apply_assumption; omega)))); (case hq => kernel_rfl))
         all_goals (apply dtk 3; (case hi => rfl); (case hop => ((apply r_load1; rfl; exact Cell.frozen (hel' _ (by omega))))); (case hq => kernel_rfl))
         all_goals (apply dtk 4; (case hi => rfl); (case hop => (apply prd; apply p_lt <;> rfl)); (case hq => kernel_rfl))
         all_goals (apply dtk 5; (case hi => rfl); (case hop => (apply prd; apply p_move <;> rfl)); (case hq => kernel_rfl))
         all_goals (try (apply d_guardB 6; (case hi => rfl); (case hgd => rfl); (case h1 => rfl); (case h2 => rfl); all_goals (intro h; (try simp only [reduceCtorEq, zzz] at h))))
         all_goals (first | (apply dpa 6; (case hi => rfl); (case hg => rfl); (case hn => rfl); (case hq => kernel_rfl)) | (apply dtg 6; (case hi => rfl); (case hg => rfl); (case hop => (apply prd; apply p_move <;> rfl)); (case hq => kernel_rfl)) | fail)
         all_goals (try (apply d_guardB 7; (case hi => rfl); (case hgd => rfl); (case h1 => rfl); (case h2 => rfl); all_goals (intro h; (try simp only [reduceCtorEq, zzz] at h))))
         all_goals (first | (apply dpa 7; (case hi => rfl); (case hg => rfl); (case hn => rfl); (case hq => kernel_rfl)) | (apply dtg 7; (case hi => rfl); (case hg => rfl); (case hop => (apply prd; apply p_move <;> rfl)); (case hq => kernel_rfl)) | fail)
         all_goals (try (apply d_guardB 8; (case hi => rfl); (case hgd => rfl); (case h1 => rfl); (case h2 => rfl); all_goals (intro h; (try simp only [reduceCtorEq, zzz] at h))))
         all_goals (first | (apply dpa 8; (case hi => rfl); (case hg => rfl); (case hn => rfl); (case hq => kernel_rfl)) | (apply dtg 8; (case hi => rfl); (case hg => rfl); (case hop => (apply prd; apply p_indexAddrS; (case hx => rfl); (case hi => rfl); (case h0 => omega); (case h => omega); (case hA => (apply_assumption; omega)))); (case hq => kernel_rfl)) | fail)
         all_goals (try (apply d_guardB 9; (case hi => rfl); (case hgd => rfl); (case h1 => rfl); (case h2 => rfl); all_goals (intro h; (try simp only [reduceCtorEq, zzz] at h))))
         all_goals (first | (apply dpa 9; (case hi => rfl); (case hg => rfl); (case hn => rfl); (case hq => kernel_rfl)) | (apply dtg 9; (case hi => rfl); (case hg => rfl); (case hop => ((apply r_load1; rfl; exact Cell.frozen (hel' _ (by omega))))); (case hq => kernel_rfl)) | fail)
         all_goals (try (apply d_guardB 10; (case hi => rfl); (case hgd => rfl); (case h1 => rfl); (case h2 => rfl); all_goals (intro h; (try simp only [reduceCtorEq, zzz] at h))))
         all_goals (first | (apply dpa 10; (case hi => rfl); (case hg => rfl); (case hn => rfl); (case hq => kernel_rfl)) | (apply dtg 10; (case hi => rfl); (case hg => rfl); (case hop => (apply prd; apply p_gt <;> rfl)); (case hq => kernel_rfl)) | fail)
         all_goals (apply dtk 11; (case hi => rfl); (case hop => first | (apply prd; apply p_pickT <;> rfl) | (apply prd; apply p_pickF <;> rfl) | fail); (case hq => kernel_rfl))
         all_goals (apply dtk 12; (case hi => rfl); (case hop => (apply prd; apply p_move <;> rfl)); (case hq => kernel_rfl))
         all_goals (try (apply d_guardB 13; (case hi => rfl); (case hgd => rfl); (case h1 => rfl); (case h2 => rfl); all_goals (intro h; (try simp only [reduceCtorEq, zzz] at h))))
         all_goals (first | (apply dpa 13; (case hi => rfl); (case hg => rfl); (case hn => rfl); (case hq => kernel_rfl)) | (apply dtg 13; (case hi => rfl); (case hg => rfl); (case hop => (apply prd; apply p_move <;> rfl)); (case hq => kernel_rfl)) | fail)
         all_goals (try (apply d_guardB 14; (case hi => rfl); (case hgd => rfl); (case h1 => rfl); (case h2 => rfl); all_goals (intro h; (try simp only [reduceCtorEq, zzz] at h))))
         all_goals (first | (apply dpa 14; (case hi => rfl); (case hg => rfl); (case hn => rfl); (case hq => kernel_rfl)) | (apply dtg 14; (case hi => rfl); (case hg => rfl); (case hop => (apply prd; apply p_gt <;> rfl)); (case hq => kernel_rfl)) | fail)
         all_goals (try (apply d_guardB 15; (case hi => rfl); (case hgd => rfl); (case h1 => rfl); (case h2 => rfl); all_goals (intro h; (try simp only [reduceCtorEq, zzz] at h))))
         all_goals (first | (apply dpa 15; (case hi => rfl); (case hg => rfl); (case hn => rfl); (case hq => kernel_rfl)) | (apply dtg 15; (case hi => rfl); (case hg => rfl); (case hop => (apply prd; apply p_move <;> rfl)); (case hq => kernel_rfl)) | fail)
         all_goals (try (apply d_guardB 16; (case hi => rfl); (case hgd => rfl); (case h1 => rfl); (case h2 => rfl); all_goals (intro h; (try simp only [reduceCtorEq, zzz] at h))))
         all_goals (first | (apply dpa 16; (case hi => rfl); (case hg => rfl); (case hn => rfl); (case hq => kernel_rfl)) | (apply dpn 16; (case hi => rfl); (case hg => rfl); (case hn => rfl); (case hq => kernel_rfl)) | (apply dtg 16; (case hi => rfl); (case hg => rfl); (case hop => (apply prd; apply p_move <;> rfl)); (case hq => kernel_rfl)) | fail)
         all_goals (try (apply d_guardB 17; (case hi => rfl); (case hgd => rfl); (case h1 => rfl); (case h2 => rfl); all_goals (intro h; (try simp only [reduceCtorEq, zzz] at h))))
         all_goals (first | (apply dpa 17; (case hi => rfl); (case hg => rfl); (case hn => rfl); (case hq => kernel_rfl)) | (apply dpn 17; (case hi => rfl); (case hg => rfl); (case hn => rfl); (case hq => kernel_rfl)) | (apply dtg 17; (case hi => rfl); (case hg => rfl); (case hop => (apply prd; apply p_move <;> rfl)); (case hq => kernel_rfl)) | fail)
         all_goals (try (apply d_guardB 18; (case hi => rfl); (case hgd => rfl); (case h1 => rfl); (case h2 => rfl); all_goals (intro h; (try simp only [reduceCtorEq, zzz] at h))))
         all_goals (first | (apply dpa 18; (case hi => rfl); (case hg => rfl); (case hn => rfl); (case hq => kernel_rfl)) | (apply dpn 18; (case hi => rfl); (case hg => rfl); (case hn => rfl); (case hq => kernel_rfl)) | (apply dtg 18; (case hi => rfl); (case hg => rfl); (case hop => (apply prd; apply p_indexAddrS; (case hx => rfl); (case hi => rfl); (case h0 => omega); (case h => omega); (case hA => (apply_assumption; omega)))); (case hq => kernel_rfl)) | fail)
         all_goals (try (apply d_guardB 19; (case hi => rfl); (case hgd => rfl); (case h1 => rfl); (case h2 => rfl); all_goals (intro h; (try simp only [reduceCtorEq, zzz] at h))))
         all_goals (first | (apply dpa 19; (case hi => rfl); (case hg => rfl); (case hn => rfl); (case hq => kernel_rfl)) | (apply dpn 19; (case hi => rfl); (case hg => rfl); (case hn => rfl); (case hq => kernel_rfl)) | (apply dtg 19; (case hi => rfl); (case hg => rfl); (case hop => ((apply r_load1; rfl; exact Cell.frozen (hel' _ (by omega))))); (case hq => kernel_rfl)) | fail)
         all_goals (try (apply d_guardB 20; (case hi => rfl); (case hgd => rfl); (case h1 => rfl); (case h2 => rfl); all_goals (intro h; (try simp only [reduceCtorEq, zzz] at h))))
         all_goals (first | (apply dpa 20; (case hi => rfl); (case hg => rfl); (case hn => rfl); (case hq => kernel_rfl)) | (apply dpn 20; (case hi => rfl); (case hg => rfl); (case hn => rfl); (case hq => kernel_rfl)) | (apply dtg 20; (case hi => rfl); (case hg => rfl); (case hop => (apply prd; apply p_move <;> rfl)); (case hq => kernel_rfl)) | fail)
         all_goals (try (apply d_guardB 21; (case hi => rfl); (case hgd => rfl); (case h1 => rfl); (case h2 => rfl); all_goals (intro h; (try simp only [reduceCtorEq, zzz] at h))))
         all_goals (first | (apply dpa 21; (case hi => rfl); (case hg => rfl); (case hn => rfl); (case hq => kernel_rfl)) | (apply dpn 21; (case hi => rfl); (case hg => rfl); (case hn => rfl); (case hq => kernel_rfl)) | (apply dtg 21; (case hi => rfl); (case hg => rfl); (case hop => (apply prd; apply p_move <;> rfl)); (case hq => kernel_rfl)) | fail)
         all_goals (try (apply d_guardB 22; (case hi => rfl); (case hgd => rfl); (case h1 => rfl); (case h2 => rfl); all_goals (intro h; (try simp only [reduceCtorEq, zzz] at h))))
         all_goals (first | (apply dpa 22; (case hi => rfl); (case hg => rfl); (case hn => rfl); (case hq => kernel_rfl)) | (apply dpn 22; (case hi => rfl); (case hg => rfl); (case hn => rfl); (case hq => kernel_rfl)) | (apply dtg 22; (case hi => rfl); (case hg => rfl); (case hop => (apply prd; apply p_sub; (case hx => rfl); (case hy => rfl); (case h => omega))); (case hq => kernel_rfl)) | fail)
         all_goals (try (apply d_guardB 23; (case hi => rfl); (case hgd => rfl); (case h1 => rfl); (case h2 => rfl); all_goals (intro h; (try simp only [reduceCtorEq, zzz] at h))))
         all_goals (first | (apply dpa 23; (case hi => rfl); (case hg => rfl); (case hn => rfl); (case hq => kernel_rfl)) | (apply dpn 23; (case hi => rfl); (case hg => rfl); (case hn => rfl); (case hq => kernel_rfl)) | (apply dtg 23; (case hi => rfl); (case hg => rfl); (case hop => (apply prd; apply p_indexAddrS; (case hx => rfl); (case hi => rfl); (case h0 => omega); (case h => omega); (case hA => (apply_assumption; omega)))); (case hq => kernel_rfl)) | fail)
         all_goals (try (apply d_guardB 24; (case hi => rfl); (case hgd => rfl); (case h1 => rfl); (case h2 => rfl); all_goals (intro h; (try simp only [reduceCtorEq, zzz] at h))))
         all_goals (first | (apply dpa 24; (case hi => rfl); (case hg => rfl); (case hn => rfl); (case hq => kernel_rfl)) | (apply dpn 24; (case hi => rfl); (case hg => rfl); (case hn => rfl); (case hq => kernel_rfl)) | (apply dtg 24; (case hi => rfl); (case hg => rfl); (case hop => ((apply r_load1; rfl; exact Cell.frozen (hel' _ (by omega))))); (case hq => kernel_rfl)) | fail)
         all_goals (try (apply d_guardB 25; (case hi => rfl); (case hgd => rfl); (case h1 => rfl); (case h2 => rfl); all_goals (intro h; (try simp only [reduceCtorEq, zzz] at h))))
         all_goals (first | (apply dpa 25; (case hi => rfl); (case hg => rfl); (case hn => rfl); (case hq => kernel_rfl)) | (apply dpn 25; (case hi => rfl); (case hg => rfl); (case hn => rfl); (case hq => kernel_rfl)) | (apply dtg 25; (case hi => rfl); (case hg => rfl); (case hop => (apply prd; apply p_le <;> rfl)); (case hq => kernel_rfl)) | fail)
         all_goals (try (apply d_guardB 26; (case hi => rfl); (case hgd => rfl); (case h1 => rfl); (case h2 => rfl); all_goals (intro h; (try simp only [reduceCtorEq, zzz] at h))))
         all_goals (first | (apply dpa 26; (case hi => rfl); (case hg => rfl); (case hn => rfl); (case hq => kernel_rfl)) | (apply dtg 26; (case hi => rfl); (case hg => rfl); (case hop => first | (apply prd; apply p_pickT <;> rfl) | (apply prd; apply p_pickF <;> rfl) | fail); (case hq => kernel_rfl)) | fail)
         all_goals (apply dtk 27; (case hi => rfl); (case hop => first | (apply prd; apply p_pickT <;> rfl) | (apply prd; apply p_pickF <;> rfl) | fail); (case hq => kernel_rfl))
         all_goals (apply d_done; (case hr => kernel_rfl))
         repeat' (first | apply v_seq | apply v_region | apply v_nil | apply v_skip | apply v_blk | (apply v_pure; (case hop => first | (apply p_move <;> rfl) | (apply p_assign <;> rfl) | (apply p_add; (case hx => rfl); (case hy => rfl); (case h => omega)) | fail); (case hd => rfl)) | (apply v_condT; (case hc => rfl)) | (apply v_condF; (case hc => rfl)) | (apply v_cond; (case hc => rfl); all_goals (intro h; (try simp only [reduceCtorEq, zzz] at h))) | fail)
         all_goals try
           (refine v_ret [] (outsA1 rfl rfl) (by repeat (exact List.Sublist.refl _)) ?_
            refine ⟨?_, rfl, rfl⟩
            rw [decide_eq_false]
            rintro ⟨_, hm⟩
            obtain ⟨⟨q1, q0⟩, q2, q3⟩ := hm k (by omega)
            have q4 := q0 j (by omega)
            simp only [e3, e4] at *
            omega)
         all_goals
           (refine v_again rfl ⟨rfl, rfl, j + 1, by omega, rfl, fun i h hi => ?_⟩ (by simp [headI]; omega)
            by_cases hik : i = j
            · subst hik; simp only [e3, e4] at *; omega
            · exact hin i h (by omega))
       · refine v_again rfl ⟨rfl, rfl, k + 1, by omega, rfl, fun i h hi => ?_⟩ (by simp [headI]; omega)
         by_cases hik : i = k
         · subst hik
           simp only [e1, e2] at *
           exact ⟨⟨by omega, fun i' h' => hin i' h' (by omega)⟩, by omega, by omega⟩
         · exact hno i h (by omega))
  · refine v_ret [] (outsA1 rfl rfl) (by repeat (exact List.Sublist.refl _)) ?_
    refine ⟨?_, rfl, rfl⟩
    rw [decide_eq_true]
    exact ⟨⟨by omega, by assumption⟩, fun i h => hno i h (by omega)⟩
def placeK (l : List Co) (x : Int) : Nat → Int
  | 0 => -1
  | k + 1 => if (l.getD k (0, [])).1 ≤ x then (k : Int) else placeK l x k
theorem placeK_le (l : List Co) (x : Int) : ∀ k : Nat, -1 ≤ placeK l x k ∧ placeK l x k < k
  | 0 => by simp [placeK]
  | k + 1 => by
    have := placeK_le l x k
    unfold placeK
    split <;> omega
theorem placeK_succ {l : List Co} {x : Int} {k : Nat} (h : k < l.length) : placeK l x (k + 1) = if l[k].1 ≤ x then (k : Int) else placeK l x k := by
  rw [placeK, List.getD_eq_getElem?_getD, List.getElem?_eq_getElem h]; rfl
theorem place_s {G : GH} {l : List Co} {sv : Value} (x : Int) (hs : Cos G sv l) : Con Tryz.prog 140 #[sv, .int .i64 x] G [] (Just (.int .i64 (placeK l x l.length)) G) := by
  obtain ⟨A, c, mA, mc, rfl, hlc, hcm, hsome, hcp, hc0, hc1, hmv, hwf⟩ := coOpen hs
  simp only [maxLen] at hcm
  (refine v_enter Tryz.func140 rfl Tryz.ntmps140 rfl ?_; intro B _)
  repeat' (first | apply v_seq | apply v_region | apply v_nil | apply v_block | (apply v_pure; (case hop => first | (apply p_move <;> rfl) | (apply p_assign <;> rfl) | (apply p_lenSlice <;> rfl) | fail); (case hd => rfl)) | fail)
  refine v_loop [10, 9, 8, 5, 1] (fun us G' μ' => G' = G ∧ μ' = [] ∧ ∃ k, k ≤ l.length ∧ us = [Value.int .i64 (k : Nat), .int .i64 l.length, .slice A l.length c, .int .i64 (placeK l x k), .int .i64 x]) (fun us => l.length - (headI us).toNat) rfl ⟨rfl, rfl, 0, by omega, rfl⟩ ?_
  rintro us G' μ' ⟨rfl, rfl, k, hk, rfl⟩
  repeat' (first | apply v_seq | apply v_region | apply v_nil | apply v_skip | apply v_block | apply v_blk | (apply v_exit; (case hp => rfl)) | (apply v_pure; (case hop => first | (apply p_move <;> rfl) | (apply p_lt <;> rfl) | (apply p_le <;> rfl) | (apply p_assign <;> rfl) | (apply p_fieldAddrB <;> rfl) | (apply p_add; (case hx => rfl); (case hy => rfl); (case h => omega)) | (apply p_indexAddrS; (case hx => rfl); (case hi => rfl); (case h0 => omega); (case h => omega); (case hA => (apply_assumption; omega))) | fail); (case hd => rfl)) | (apply v_cond; (case hc => rfl); all_goals (intro h; (try simp only [reduceCtorEq, zzz] at h))) | (apply v_read; (case hop => (apply r_loadN; rfl; exact CellsAt.frozen (hcp _ (by omega)); rfl)); (case hd => rfl)) | (apply v_read; (case hop => (apply r_load1; rfl; (apply Cell.own; (case h => (repeat (exact mhd _))); rfl))); (case hd => rfl)) | (apply v_alloc; (case hz => rfl); (case hd => rfl); intro b) | (apply v_store; (case hp => rfl); (case hx => rfl); (case hc => rfl); (case hsz => rfl); (case h1 => rfl); (case hb => (repeat (exact mhd _))); (case hfit => exact nle rfl); (case hov => ((repeat (first | with_reducible exact ov_nil | apply ov_cons)); done)); (case hu => repeat (exact Upd.here _ _))) | fail)
  · refine v_drop (ν := []) (by repeat (exact List.nil_sublist _)) ?_
    refine v_again rfl ⟨rfl, rfl, k + 1, by omega, ?_⟩ (by simp [headI]; omega)
    rw [placeK_succ (by omega), if_pos (by assumption)]
    rfl
  · refine v_drop (ν := []) (by repeat (exact List.nil_sublist _)) ?_
    refine v_again rfl ⟨rfl, rfl, k + 1, by omega, ?_⟩ (by simp [headI]; omega)
    rw [placeK_succ (by omega), if_neg (by assumption)]
    rfl
  · refine v_ret [] (outsA1 rfl rfl) (by repeat (exact List.Sublist.refl _)) ?_
    obtain rfl : k = l.length := by omega
    exact ⟨rfl, rfl, rfl⟩
def atK (l : List Co) (x : Int) (k : Nat) : List Int := if placeK l x k < 0 then [] else (l.getD (placeK l x k).toNat (0, [])).2
theorem atK_pos {l : List Co} {x : Int} {k : Nat} (h : k < l.length) (hx : l[k].1 ≤ x) : atK l x (k + 1) = l[k].2 := by
  rw [atK, placeK_succ h, if_pos hx, if_neg (by omega), Int.toNat_natCast, List.getD_eq_getElem?_getD, List.getElem?_eq_getElem h]; rfl
theorem atK_neg {l : List Co} {x : Int} {k : Nat} (h : k < l.length) (hx : ¬ l[k].1 ≤ x) : atK l x (k + 1) = atK l x k := by
  rw [atK, placeK_succ h, if_neg hx]; rfl
theorem refAt_s {G : GH} {l : List Co} {sv : Value} (x : Int) (hs : Cos G sv l) : Con Tryz.prog 27 #[sv, .int .i64 x] G [] (fun r G' μ' => G' = G ∧ μ' = [] ∧ Sl G 1 (IntR .i64) r (atK l x l.length)) := by
  obtain ⟨A, c, mA, mc, rfl, hlc, hcm, hsome, hcp, hc0, hc1, hmv, hwf⟩ := coOpen hs
  simp only [maxLen] at hcm
  (refine v_enter Tryz.func27 rfl Tryz.ntmps27 rfl ?_; intro B _)
  repeat' (first | apply v_seq | apply v_region | apply v_nil | apply v_block | (apply v_pure; (case hop => (apply p_assign <;> rfl)); (case hd => rfl)) | fail)
  refine v_loop [6, 5, 0, 1] (fun us G' μ' => G' = G ∧ μ' = [] ∧ ∃ k out, k ≤ l.length ∧ us = [Value.int .i64 (k : Nat), out, .slice A l.length c, .int .i64 x] ∧ Sl G 1 (IntR .i64) out (atK l x k)) (fun us => l.length - (headI us).toNat) rfl ⟨rfl, rfl, 0, _, by omega, rfl, Sl.nil⟩ ?_
  rintro us G' μ' ⟨rfl, rfl, k, out, hk, rfl, hout⟩
  repeat' (first | apply v_seq | apply v_region | apply v_nil | apply v_skip | apply v_block | apply v_blk | (apply v_exit; (case hp => rfl)) | (apply v_pure; (case hop => first | (apply p_move <;> rfl) | (apply p_lt <;> rfl) | (apply p_le <;> rfl) | (apply p_assign <;> rfl) | (apply p_lenSlice <;> rfl) | (apply p_fieldAddr <;> rfl) | (apply p_add; (case hx => rfl); (case hy => rfl); (case h => omega)) | (apply p_indexAddrS; (case hx => rfl); (case hi => rfl); (case h0 => omega); (case h => omega); (case hA => (apply_assumption; omega))) | fail); (case hd => rfl)) | (apply v_cond; (case hc => rfl); all_goals (intro h; (try simp only [reduceCtorEq, zzz] at h))) | (apply v_read; (case hop => first | (apply r_load1; rfl; exact Cell.frozen (hc0 _ (by omega))) | (apply r_load1; rfl; exact Cell.frozen (hc1 _ (by omega))) | fail); (case hd => rfl)) | fail)
  · refine v_again rfl ⟨rfl, rfl, k + 1, _, by omega, rfl, ?_⟩ (by simp [headI]; omega)
    have hlt : k < l.length := by omega
    rw [atK_pos hlt (by assumption)]
    exact hmv k hlt
  · refine v_again rfl ⟨rfl, rfl, k + 1, _, by omega, rfl, ?_⟩ (by simp [headI]; omega)
    have hlt : k < l.length := by omega
    rw [atK_neg hlt (by assumption)]
    exact hout
  · refine v_ret [] (outsA1 rfl rfl) (by repeat (exact List.Sublist.refl _)) ?_
    obtain rfl : k = l.length := by omega
    exact ⟨rfl, rfl, hout⟩
theorem clone_s {G : GH} {l : List Int} {sv : Value} (hs : Sl G 1 (IntR .i64) sv l) (hl : l.length ≤ 1048576) : Con Tryz.prog 85 #[sv] G [] (fun r G' μ' => G' = G ∧ Grow 3 1 r l.length (l.map (.int .i64 ·)) μ') := by
  obtain ⟨A, c, rfl, hlc, hcm, hsome, hel, _⟩ := hs.openInt
  simp only [maxLen] at hcm
  (refine v_enter Tryz.func85 rfl Tryz.ntmps85 rfl ?_; intro B _)
  repeat' (first | apply v_seq | apply v_region | apply v_nil | apply v_skip | (apply v_pure; (case hop => first | (apply p_move <;> rfl) | (apply p_assign <;> rfl) | (apply p_eqNilSlice <;> rfl)); (case hd => rfl)) | (apply v_cond; (case hc => rfl); all_goals (intro h; (try simp only [reduceCtorEq, zzz] at h))) | (apply v_buildSlice; (case hz => rfl); (case hi => rfl); (case hv => (simp only [List.map_cons, List.map_nil]; repeat (with_reducible exact evs_nil))); (case hp => (with_reducible exact pk_nil)); (case hb => rfl); (case hd => rfl); intro b) | fail)
  · refine v_ret [] (outsA1 rfl rfl) (by repeat (exact List.Sublist.refl _)) ?_
    have : l = [] := by
      cases l with
      | nil => rfl
      | cons a l => have := hsome (by simp); simp_all
    subst this
    exact ⟨rfl, Grow.nil _ _⟩
  · refine v_append (e := 3) (sz := 1) (zero := .int .i64 0) rfl (by omega) rfl rfl Grow.empty (List.Perm.refl _) (Src.ints hs) (allOne_ints l) (by omega) (by simp only [maxLen]; omega) rfl ?_
    intro v' ν' hg
    repeat' (first | apply v_nil | (apply v_pure; (case hop => (apply p_assign <;> rfl)); (case hd => rfl)) | fail)
    refine v_ret ν' (outsA1 rfl rfl) (by simp) ?_
    rw [Nat.zero_add, List.nil_append] at hg
    exact ⟨rfl, hg⟩
theorem placeK_nonneg {l : List Co} {x : Int} (h : 0 < l.length) (hx : l[0].1 ≤ x) : ∀ k, 0 < k → k ≤ l.length → 0 ≤ placeK l x k
  | 1, _, _ => by rw [placeK_succ h, if_pos hx]; simp
  | k + 2, _, hk => by
    rw [placeK_succ (by omega)]
    split
    · omega
    · exact placeK_nonneg h hx (k + 1) (by omega) (by omega)
noncomputable def atL (l : List Co) (x : Int) : List Int := if ConfOK l ∧ 1 ≤ x then atK l x l.length else []
theorem at_s {G : GH} {l : List Co} {sv : Value} (x : Int) (hs : Cos G sv l) (hbig : ∀ c ∈ l, c.2.length ≤ 1048576) : Con Tryz.prog 79 #[sv, .int .i64 x] G [] (fun r G' μ' => μ' = [] ∧ Sl G' 1 (IntR .i64) r (atL l x)) := by
  obtain ⟨A, c, mA, mc, rfl, hlc, hcm, hsome, hcp, hc0, hc1, hmv, hwf⟩ := coOpen hs
  simp only [maxLen] at hcm
  have hp := placeK_le l x l.length
  have hn := fun (h : 0 < l.length) (hx : l[0].1 ≤ x) => placeK_nonneg h hx l.length h (Nat.le_refl _)
  have ck : ConfOK l → 0 < l.length := fun h => h.1.1
  by_cases hok : ConfOK l
  · obtain ⟨⟨h0, h1⟩, _⟩ := id hok
    have q := check_s hs
    rw [if_pos hok] at q
    (refine v_enter Tryz.func79 rfl Tryz.ntmps79 rfl ?_; intro B _)
    repeat' (first | apply v_seq | apply v_region | apply v_nil | apply v_skip | (apply v_take; (case hg => rfl)) | (apply v_pure; (case hop => first | (apply p_move <;> rfl) | (apply p_nes <;> rfl) | (apply p_lt <;> rfl) | (apply p_assign <;> rfl) | (apply p_pickF <;> rfl) | fail); (case hd => rfl)) | (apply v_cond; (case hc => rfl); all_goals (intro h; (try simp only [reduceCtorEq, zzz] at h))) | (apply v_callJ (hs := q); (case ha => rfl); (case hd => rfl)) | fail)
    · refine v_ret [] (outsA1 rfl rfl) (by repeat (exact List.Sublist.refl _)) ?_
      rw [atL, if_neg (by omega)]
      exact ⟨rfl, Sl.nil⟩
    have hn' := hn h0 (by omega)
    repeat' (first | (apply v_pure; (case hop => first | (apply p_fieldAddr <;> rfl) | (apply p_indexAddrS; (case hx => rfl); (case hi => rfl); (case h0 => omega); (case h => omega); (case hA => (apply_assumption; omega))) | fail); (case hd => rfl)) | (apply v_callJ (hs := place_s x hs); (case ha => rfl); (case hd => rfl)) | (apply v_read; (case hop => (apply r_load1; rfl; exact Cell.frozen (hc1 _ (by omega)))); (case hd => rfl)) | fail)
    refine v_call (μ1 := []) (μ2 := _) rfl (clone_s (hmv _ (by omega)) (hbig _ (List.getElem_mem _))) (List.Perm.refl _) rfl ?_
    rintro r G' μ1 - ⟨rfl, hg⟩
    refine v_freeze (ν := μ1) (μ := []) ?_
    intro G1 hle hG
    repeat' (first | apply v_nil | (apply v_pure; (case hop => (apply p_assign <;> rfl)); (case hd => rfl)) | fail)
    refine v_ret [] (outsA1 rfl rfl) (by repeat (exact List.Sublist.refl _)) ?_
    refine ⟨rfl, ?_⟩
    have hlt : (placeK l x l.length).toNat < l.length := by omega
    obtain ⟨_, _, _, _, _, _, _, hw⟩ := (hmv _ hlt).openInt
    rw [atL, if_pos ⟨hok, by omega⟩, atK, if_neg (by omega), List.getD_eq_getElem?_getD, List.getElem?_eq_getElem hlt]
    exact hg.ints hG hw
  · have q := check_s hs
    rw [if_neg hok] at q
    (refine v_enter Tryz.func79 rfl Tryz.ntmps79 rfl ?_; intro B _)
    repeat' (first | apply v_seq | apply v_region | apply v_nil | (apply v_pass; (case hg => rfl); (case hn => rfl); (case hd => rfl)) | (apply v_pure; (case hop => first | (apply p_move <;> rfl) | (apply p_ne <;> rfl) | (apply p_assign <;> rfl) | (apply p_pickT <;> rfl) | fail); (case hd => rfl)) | (apply v_condT; (case hc => rfl)) | (apply v_guardB; (case h1 => rfl); (case h2 => rfl); all_goals (intro h; (try simp only [reduceCtorEq, zzz] at h); first | (exfalso; omega) | skip)) | (apply v_callJ (hs := q); (case ha => rfl); (case hd => rfl)) | fail)
    refine v_ret [] (outsA1 rfl rfl) (by repeat (exact List.Sublist.refl _)) ?_
    rw [atL, if_neg (fun h => hok h.1)]
    exact ⟨rfl, Sl.nil⟩
end Go.Proofs.YtmdeeokejdkceaaGreatDoor
/-
  The kit's contracts for three functions of slices, laid at this program (printed by a program of ours off the structures' fields).
-/
set_option linter.unusedSimpArgs false
set_option linter.unusedVariables false
namespace Go.Proofs.YtmdeeokejdkceaaGreatDoor
open Go.Shelf Go.Lib Go.Sort Go.RowKit
def laysSearch_ren : Go.Shelf.Ren := ⟨fun | 25 => 303 | 31 => 281 | 32 => 320 | 37 => 229 | n => n, fun | 0 => 0 | 3 => 3 | 4 => 4 | 22 => 49 | 40 => 107 | n => n, fun n => n⟩
theorem laysSearch : Lays2.n25 Tryz.prog laysSearch_ren where
  mixed := by kernel_rfl
  f25 := Tryz.func303.trans (congrArg some (by kernel_rfl))
  f31 := Tryz.func281.trans (congrArg some (by kernel_rfl))
  f32 := Tryz.func320.trans (congrArg some (by kernel_rfl))
  f37 := Tryz.func229.trans (congrArg some (by kernel_rfl))
  t0 := Tryz.underlying0
  a0 := Tryz.isAgg0
  z0 := Tryz.sizeOf0
  v0 := Tryz.zeroValue0
  t3 := Tryz.underlying3
  a3 := Tryz.isAgg3
  z3 := Tryz.sizeOf3
  v3 := Tryz.zeroValue3
  t4 := Tryz.underlying4
  a4 := Tryz.isAgg4
  z4 := Tryz.sizeOf4
  v4 := Tryz.zeroValue4
  t22 := Tryz.underlying49
  a22 := Tryz.isAgg49
  z22 := Tryz.sizeOf49
  v22 := Tryz.zeroValue49
  t40 := Tryz.underlying107
  a40 := Tryz.isAgg107
  z40 := Tryz.sizeOf107
  v40 := Tryz.zeroValue107
def laysDelete_ren : Go.Shelf.Ren := ⟨fun | 23 => 305 | n => n, fun | 0 => 0 | 3 => 3 | 4 => 4 | 22 => 49 | n => n, fun n => n⟩
theorem laysDelete : Lays2.n23 Tryz.prog laysDelete_ren where
  mixed := by kernel_rfl
  f23 := Tryz.func305.trans (congrArg some (by kernel_rfl))
  t0 := Tryz.underlying0
  a0 := Tryz.isAgg0
  z0 := Tryz.sizeOf0
  v0 := Tryz.zeroValue0
  t3 := Tryz.underlying3
  a3 := Tryz.isAgg3
  z3 := Tryz.sizeOf3
  v3 := Tryz.zeroValue3
  t4 := Tryz.underlying4
  a4 := Tryz.isAgg4
  z4 := Tryz.sizeOf4
  v4 := Tryz.zeroValue4
  t22 := Tryz.underlying49
  a22 := Tryz.isAgg49
  z22 := Tryz.sizeOf49
  v22 := Tryz.zeroValue49
  i3 := by kernel_rfl
def laysInsert_ren : Go.Shelf.Ren := ⟨fun | 21 => 304 | 27 => 321 | 28 => 322 | 35 => 333 | 39 => 337 | n => n, fun | 0 => 0 | 3 => 3 | 4 => 4 | 22 => 49 | n => n, fun n => n⟩
theorem laysInsert : Lays2.n21 Tryz.prog laysInsert_ren where
  mixed := by kernel_rfl
  f21 := Tryz.func304.trans (congrArg some (by kernel_rfl))
  f27 := Tryz.func321.trans (congrArg some (by kernel_rfl))
  f28 := Tryz.func322.trans (congrArg some (by kernel_rfl))
  f35 := Tryz.func333.trans (congrArg some (by kernel_rfl))
  f39 := Tryz.func337.trans (congrArg some (by kernel_rfl))
  t0 := Tryz.underlying0
  a0 := Tryz.isAgg0
  z0 := Tryz.sizeOf0
  v0 := Tryz.zeroValue0
  t3 := Tryz.underlying3
  a3 := Tryz.isAgg3
  z3 := Tryz.sizeOf3
  v3 := Tryz.zeroValue3
  t4 := Tryz.underlying4
  a4 := Tryz.isAgg4
  z4 := Tryz.sizeOf4
  v4 := Tryz.zeroValue4
  t22 := Tryz.underlying49
  a22 := Tryz.isAgg49
  z22 := Tryz.sizeOf49
  v22 := Tryz.zeroValue49
  i3 := by kernel_rfl
end Go.Proofs.YtmdeeokejdkceaaGreatDoor
/-
  The three functions of slices, as contracts of ours.
-/
set_option linter.unusedSimpArgs false
set_option linter.unusedVariables false
namespace Go.Proofs.YtmdeeokejdkceaaGreatDoor
open Go.Vx Go.ChangeShapes Go.WideShapes Go.ChangeAt Go.RowKit
attribute [local semireducible] Con
theorem Con.ofCallsM {P : Program} {f : FuncId} {args : Array Value} {G : GH} {μ : OH} {Φ : Value → GH → OH → Prop} (h : ∀ w, Mem G μ w → Calls P f args w fun e w' => ∃ v, e = .returned v ∧ ∃ G' μ', Step G μ w G' μ' w' ∧ Φ v G' μ') : Con P f args G μ Φ := by
  intro w hw
  exact (h w hw).mono fun e w' hq => by
    obtain ⟨v, rfl, hv⟩ := hq
    exact ⟨v, rfl, hv⟩
theorem cell_spot {G : GH} {a : Addr} {v : Value} (h : GH.cell? G a = some v) : a.spot = none := by
  unfold GH.cell? at h
  split at h
  · split at h
    · cases h
    · rename_i h'
      cases hs : a.spot with
      | none => rfl
      | some s => rw [hs] at h'; simp at h'
  · cases h
theorem search_s {G : GH} {l : List Int} {sv : Value} (x : Int) (hs : Sl G 1 (IntR .i64) sv l) (hl : 0 < l.length) (hbig : l.length ≤ 1048576) (hsort : l.Pairwise (· ≤ ·)) :
    Con Tryz.prog 303 #[sv, .int .i64 x] G [] (Just (.tuple #[.int .i64 (l.countP (· < x) : Nat), .bool (l.contains x)]) G) := by
  obtain ⟨A, c, rfl, hlc, hcm, hsome, hel, _⟩ := hs.openInt
  refine Con.ofCallsM fun w hw => ?_
  have hA := hsome hl
  cases A with
  | none => cases hA
  | some a =>
    obtain ⟨b, off, spot⟩ := a
    have h0 := cell_spot (hel 0 hl)
    have : spot = none := by simpa [adr, Addr.add] using h0
    subst this
    refine (Any.slices_BinarySearch_int laysSearch b off l.length c l x w (Nat.le_refl _) (by omega) (fun j hj => ?_) (by rw [List.take_length]; exact hsort)).mono ?_
    · have := hel j hj
      rw [Nat.mul_one] at this
      have h2 := (Cell.frozen (μ := []) this) w hw.sees
      rw [show (adr (some ⟨b, off, none⟩)).add j = (⟨b, off + j, none⟩ : Addr) from add_mk b off j] at h2
      rw [h2, List.getD_eq_getElem?_getD, List.getElem?_eq_getElem hj]; rfl
    · rintro e w' ⟨rfl, q, rfl⟩
      rw [List.take_length]
      exact ⟨_, rfl, G, [], Step.drew hw q, rfl, rfl, rfl⟩
section
variable {G : GH} {μ μ' : OH} {w : World} {b : Nat} {e : TypeId}
theorem Step.map {vs vs' : List Value} {f : Array Value → Array Value} (hw : Mem G μ w) (hb : Has μ b vs e) (hf : f vs.toArray = vs'.toArray) (hu : Upd b (.cells vs'.toArray e (0, 0)) μ μ') : Step G μ w G μ' (Go.Sort.mapBlock w b f) := by
  have hg := hw.own _ _ hb
  refine Step.upd hw hu rfl rfl rfl (by simp [Go.Sort.mapBlock]) ?_ (fun c hc => ?_)
  · simp only [Go.Sort.mapBlock, Array.getElem?_modify, if_true, hg, Option.map_some, Go.Sort.onCells, hf]
  · simp only [Go.Sort.mapBlock, Array.getElem?_modify]
    rw [if_neg (fun h => hc h.symm)]
theorem over_cons {vs : List Value} {i : Nat} {v : Value} {r : List Value} (h : i < vs.length) : over (vs.set i v) (i + 1) r = over vs i (v :: r) := by
  have t1 : (vs.set i v).take (i + 1) = vs.take i ++ [v] := by
    rw [List.take_add_one, List.getElem?_set_self h, List.take_set, List.set_eq_of_length_le (by rw [List.length_take]; omega)]; rfl
  have t2 : (vs.set i v).drop (i + 1 + r.length) = vs.drop (i + 1 + r.length) := by
    rw [List.drop_set, if_pos (by omega)]
  simp only [over, t1, t2, List.length_cons]
  rw [show i + 1 + r.length = i + (r.length + 1) by omega]
  simp
theorem Step.cells : ∀ (us : List Value) {vs : List Value} {o : Nat} {ν : OH} {w : World}, Mem G ((b, .cells vs.toArray e (0, 0)) :: ν) w → o + us.length ≤ vs.length →
    Step G ((b, .cells vs.toArray e (0, 0)) :: ν) w G ((b, .cells (over vs o us).toArray e (0, 0)) :: ν) (w.setCells b o us)
  | [], vs, o, ν, w, hw, _ => by simpa [over, World.setCells] using Step.refl hw
  | u :: us, vs, o, ν, w, hw, h => by
    rw [List.length_cons] at h
    have h1 : Step G ((b, .cells vs.toArray e (0, 0)) :: ν) w G ((b, .cells (vs.set o u).toArray e (0, 0)) :: ν) (w.setCell ⟨b, o, none⟩ u) := by
      rw [Go.Sort.setCell_eq]
      exact Step.map hw (List.Mem.head _) (by simp) (.here _ _)
    have h2 := Step.cells us (vs := vs.set o u) (o := o + 1) h1.mem (by simp; omega)
    rw [over_cons (by omega)] at h2
    exact h1.trans h2
end
theorem over_atM {a m r us : List Value} (h : us.length = m.length) : over (a ++ m ++ r) a.length us = a ++ us ++ r := by
  simp only [over, h, List.append_assoc, List.take_left, ← List.drop_drop, List.drop_left]
theorem cellOwn {μ : OH} {G : GH} {w : World} {b : Nat} {e : TypeId} {vs : List Value} (hw : Mem G μ w) (hb : Has μ b vs e) {j : Nat} {v : Value} (hv : vs[j]? = some v) : w.cell? ⟨b, 0 + j, none⟩ = some v := by
  rw [Nat.zero_add]
  exact Cell.own hb hv w hw.sees
theorem frozenOwn {μ : OH} {G : GH} {w : World} {b : Nat} {e : TypeId} {vs : List Value} (hw : Mem G μ w) (hb : Has μ b vs e) (j : Nat) : w.frozen? ⟨b, j, none⟩ = false := by
  have := hw.own _ _ hb
  simp [World.frozen?, this]
theorem shapeOwn {μ : OH} {G : GH} {w : World} {b : Nat} {e : TypeId} {vs : List Value} (hw : Mem G μ w) (hb : Has μ b vs e) : w.shape? b = some (e, vs.length) := by
  have := hw.own _ _ hb
  simp [World.shape?, this]
theorem one_ints {k : IntKind} (l : List Int) : ∀ v ∈ l.map (Value.int k ·), v.oneCell' = true := fun v hv => List.all_eq_true.1 (allOne_ints l) v hv
theorem over_at2 {a m r us : List Value} (h : us.length = m.length) : over (a ++ (m ++ r)) a.length us = a ++ us ++ r := by
  rw [← List.append_assoc]; exact over_atM h
theorem growOf {e : TypeId} {b n cap : Nat} {xs cells : List Value} (hx : xs.length = n) (hcells : ∃ spare, cells = xs ++ spare) (hl : cells.length = cap) (hn : n ≤ cap) (hm : cap ≤ maxLen) : Grow e 1 (.slice (some ⟨b, 0, none⟩) n cap) n xs [(b, .cells cells.toArray e (0, 0))] := by
  obtain ⟨spare, rfl⟩ := hcells
  exact ⟨by omega, .inr ⟨b, cap, spare, rfl, rfl, hn, hm, by omega⟩⟩
theorem shift_cells {cs spare : List Value} {i : Nat} {x : Value} (hi : i ≤ cs.length) (hs : 0 < spare.length) : ∃ r, over (over (cs ++ spare) (i + 1) (cs.drop i)) i [x] = cs.take i ++ [x] ++ cs.drop i ++ r := by
  have hlt : 0 < (cs.drop i ++ spare).length := by simp; omega
  obtain ⟨t0, t, ht⟩ : ∃ t0 t, cs.drop i ++ spare = t0 :: t := by
    cases h : cs.drop i ++ spare with
    | nil => rw [h] at hlt; simp at hlt
    | cons a b => exact ⟨a, b, rfl⟩
  have htl : (cs.drop i).length ≤ t.length := by
    have := congrArg List.length ht
    simp at this ⊢
    omega
  have e0 : cs ++ spare = (cs.take i ++ [t0]) ++ t.take (cs.drop i).length ++ t.drop (cs.drop i).length := by
    rw [List.append_assoc, List.take_append_drop, List.append_assoc, List.singleton_append, ← ht, ← List.append_assoc, List.take_append_drop]
  have hi1 : (cs.take i ++ [t0]).length = i + 1 := by simp; omega
  have hi2 : (cs.take i).length = i := by simp; omega
  refine ⟨t.drop (cs.drop i).length, ?_⟩
  rw [e0, ← hi1, over_atM (by rw [List.length_take]; omega)]
  have e1 : cs.take i ++ [t0] ++ cs.drop i ++ t.drop (cs.drop i).length = cs.take i ++ [t0] ++ (cs.drop i ++ t.drop (cs.drop i).length) := by simp
  rw [e1]
  conv => lhs; rw [show over (cs.take i ++ [t0] ++ (cs.drop i ++ t.drop (cs.drop i).length)) i [x] = over (cs.take i ++ [t0] ++ (cs.drop i ++ t.drop (cs.drop i).length)) (cs.take i).length [x] by rw [hi2]]
  rw [over_atM (m := [t0]) (us := [x]) rfl]
  simp
theorem end_cells {cs spare : List Value} {x : Value} (hs : 0 < spare.length) : ∃ r, over (cs ++ spare) cs.length [x] = cs ++ [x] ++ r := by
  match spare, hs with
  | y :: r, _ =>
    refine ⟨r, ?_⟩
    have : cs ++ y :: r = cs ++ [y] ++ r := by simp
    rw [this, over_atM (m := [y]) (us := [x]) rfl]
theorem insert_s {G : GH} {l : List Int} {i : Nat} {x : Int} {b vb cap : Nat} {spare : List Value} (hl : 0 < l.length) (hbig : l.length ≤ 1048576) (hi : i ≤ l.length) (hc : l.length ≤ cap) (hm : cap ≤ maxLen) (hcap : (l.map (Value.int .i64 ·) ++ spare).length = cap) :
    Con Tryz.prog 304 #[.slice (some ⟨b, 0, none⟩) l.length cap, .int .i64 i, .slice (some ⟨vb, 0, none⟩) 1 1] G [(b, .cells (l.map (Value.int .i64 ·) ++ spare).toArray 3 (0, 0)), (vb, .cells [Value.int .i64 x].toArray 3 (0, 0))]
      (fun r G' μ' => G' = G ∧ Grow 3 1 r (l.length + 1) ((l.take i ++ [x] ++ l.drop i).map (Value.int .i64 ·)) μ') := by
  refine Con.ofCallsM fun w hw => ?_
  have hne : vb ≠ b := by
    have := hw.nodup
    simp at this
    exact fun e => this e.symm
  simp only [maxLen] at hm
  have h1 : Has [(b, .cells (l.map (Value.int .i64 ·) ++ spare).toArray 3 (0, 0)), (vb, .cells [Value.int .i64 x].toArray 3 (0, 0))] b (l.map (Value.int .i64 ·) ++ spare) 3 := List.Mem.head _
  have h2 : Has [(b, .cells (l.map (Value.int .i64 ·) ++ spare).toArray 3 (0, 0)), (vb, .cells [Value.int .i64 x].toArray 3 (0, 0))] vb [Value.int .i64 x] 3 := List.Mem.tail _ (List.Mem.head _)
  have hcl : (l.map (Value.int .i64 ·)).length = l.length := by simp
  have hsl : spare.length = cap - l.length := by rw [List.length_append, hcl] at hcap; omega
  have hcs : ∀ j v, (l.map (Value.int .i64 ·))[j]? = some v → w.cell? ⟨b, 0 + j, none⟩ = some v := fun j v hv => cellOwn hw h1 (by rw [List.getElem?_append_left (List.getElem?_eq_some_iff.1 hv).1]; exact hv)
  have hvs : ∀ j v, [Value.int .i64 x][j]? = some v → w.cell? ⟨vb, 0 + j, none⟩ = some v := fun j v hv => cellOwn hw h2 hv
  have hsp : ∀ j, j < cap → (w.cell? ⟨b, 0 + j, none⟩).isSome = true := fun j hj => by
    have hlt : j < (l.map (Value.int .i64 ·) ++ spare).length := by rw [hcap]; exact hj
    rw [cellOwn hw h1 (List.getElem?_eq_getElem hlt)]; rfl
  have h1v : ∀ v ∈ [Value.int .i64 x], v.oneCell' = true := by intro v hv; simp at hv; subst hv; rfl
  have hlen : (l.take i ++ [x] ++ l.drop i).length = l.length + 1 := by simp; omega
  by_cases hroom : l.length + 1 ≤ cap
  · by_cases hin : i < l.length
    · refine (Any2.slices_Insert_int_shift laysInsert b 0 l.length cap i vb 0 1 1 (l.map (Value.int .i64 ·)) [Value.int .i64 x] w hin (by omega) hroom hm hne hcl rfl hcs (fun j hj => hsp j (by omega)) (fun j _ => frozenOwn hw h1 _) hvs (one_ints l) h1v _ _ _ _ (shapeOwn hw h2) (shapeOwn hw h1) (by rw [hcap]; omega) (frozenOwn hw h2 _) (frozenOwn hw h2 _)).mono ?_
      rintro e w' ⟨rfl, rfl⟩
      obtain ⟨r, hr⟩ := shift_cells (cs := l.map (Value.int .i64 ·)) (spare := spare) (i := i) (x := .int .i64 x) (by omega) (by omega)
      have st0 := Step.drew hw 1
      have st1 := Step.cells ((l.map (Value.int .i64 ·)).drop i) (o := 0 + (i + 1)) st0.mem (by simp; omega)
      have st2 := Step.cells [Value.int .i64 x] (o := 0 + i) st1.mem (by rw [over_length (by simp; omega), hcap]; simp; omega)
      rw [Nat.zero_add, Nat.zero_add, hr] at st2
      refine ⟨_, rfl, G, _, ((st0.trans st1).trans (by rw [Nat.zero_add, Nat.zero_add]; rw [Nat.zero_add] at st1; exact st2)).drop (List.Sublist.cons_cons _ (List.nil_sublist _)), rfl, growOf (by simp; omega) ⟨r, by simp [List.map_take, List.map_drop]⟩ ?_ hroom hm⟩
      rw [← hr, over_length (by rw [over_length (by simp; omega)]; simp; omega), over_length (by simp; omega), hcap]
    · obtain rfl : i = l.length := by omega
      refine (Any2.slices_Insert_int_end_room laysInsert b 0 l.length cap vb 0 1 1 [Value.int .i64 x] w (by omega) hroom hm rfl (fun j hj => by rw [Nat.add_assoc]; exact hsp _ (by omega)) (fun j _ => frozenOwn hw h1 _) hvs h1v).mono ?_
      rintro e w' ⟨rfl, rfl⟩
      obtain ⟨r, hr⟩ := end_cells (cs := l.map (Value.int .i64 ·)) (spare := spare) (x := .int .i64 x) (by omega)
      have st1 := Step.cells [Value.int .i64 x] (o := 0 + l.length) hw (by simp; omega)
      rw [hcl] at hr
      have hr' : over (l.map (Value.int .i64 ·) ++ spare) (0 + l.length) [Value.int .i64 x] = l.map (Value.int .i64 ·) ++ [Value.int .i64 x] ++ r := by rw [Nat.zero_add]; exact hr
      rw [hr'] at st1
      refine ⟨_, rfl, G, _, st1.drop (List.Sublist.cons_cons _ (List.nil_sublist _)), rfl, growOf (by simp) ⟨r, by simp⟩ ?_ hroom hm⟩
      rw [← hr', over_length (by simp; omega), hcap]
  · by_cases hin : i < l.length
    · refine (Any2.slices_Insert_int_grow laysInsert b 0 l.length cap i vb 0 1 1 (l.map (Value.int .i64 ·)) [Value.int .i64 x] w hin (by omega) hc (by omega) (by omega) hcl rfl hcs hvs (one_ints l) h1v).mono ?_
      rintro e w' ⟨rfl, rfl⟩
      have hge := grownCap_ge w (l.length + 1) cap 3
      have hle := grownCap_le_maxLen w (l.length + 1) cap 3 (by simp only [maxLen]; omega)
      generalize hK : (Builtin.zeroCells (Value.int .i64 0).cells (grownCap w (l.length + 1) cap (laysInsert_ren.t 3) - (l.length + 1))) = K
      have hKl : K.toList.length = grownCap w (l.length + 1) cap 3 - (l.length + 1) := by
        rw [← hK, show laysInsert_ren.t 3 = 3 from rfl]
        simp [size_zeroCells, Value.cells]
      generalize hZ : (Builtin.zeroCells (Value.int .i64 0).cells (l.length + 1 - i)) = Z
      have hZl : Z.toList.length = l.length + 1 - i := by
        rw [← hZ]
        simp [size_zeroCells, Value.cells]
      obtain ⟨z0, Z', hZ'⟩ : ∃ z0 Z', Z.toList = z0 :: Z' := by
        cases h : Z.toList with
        | nil => rw [h] at hZl; simp at hZl; omega
        | cons a b => exact ⟨a, b, rfl⟩
      have hZl' : Z'.length = l.length - i := by rw [hZ', List.length_cons] at hZl; omega
      have hobj : Obj.cells (((l.map (Value.int .i64 ·)).take i).toArray ++ Z ++ K) (laysInsert_ren.t 3) = Obj.cells ((l.map (Value.int .i64 ·)).take i ++ [z0] ++ (Z' ++ K.toList)).toArray 3 (0, 0) := by
        rw [show laysInsert_ren.t 3 = 3 from rfl]
        congr 1
        apply Array.ext'
        simp [hZ']
      rw [hobj]
      have st1 := (Step.alloc hw (.cells ((l.map (Value.int .i64 ·)).take i ++ [z0] ++ (Z' ++ K.toList)).toArray 3 (0, 0))).drop (List.Sublist.cons_cons _ (List.nil_sublist _))
      have st2 := Step.drew st1.mem 1
      have hti : ((l.map (Value.int .i64 ·)).take i).length = i := by simp; omega
      have st3 := Step.cells [Value.int .i64 x] (o := ((l.map (Value.int .i64 ·)).take i).length) st2.mem (by simp)
      rw [over_atM (m := [z0]) (us := [Value.int .i64 x]) rfl] at st3
      have st4 := Step.drew st3.mem 1
      have st5 := Step.cells ((l.map (Value.int .i64 ·)).drop i) (o := ((l.map (Value.int .i64 ·)).take i ++ [Value.int .i64 x]).length) st4.mem (by simp; omega)
      rw [over_at2 (m := Z') (by simp; omega)] at st5
      have st := ((((st1.trans st2).trans st3).trans st4).trans st5)
      rw [hti, List.length_append, hti] at st
      refine ⟨_, rfl, G, _, st, rfl, growOf (by simp; omega) ⟨K.toList, by simp [List.map_take, List.map_drop]⟩ ?_ hge hle⟩
      rw [List.length_append, hKl, show laysInsert_ren.t 3 = 3 from rfl]
      simp
      omega
    · obtain rfl : i = l.length := by omega
      refine (Any2.slices_Insert_int_end_grow laysInsert (some ⟨b, 0, none⟩) l.length cap vb 0 1 1 (l.map (Value.int .i64 ·)) [Value.int .i64 x] w (by omega) hc (by omega) (by omega) hcl rfl (by intro h; cases h) (by rintro a ⟨rfl⟩ j v hv; rw [add_mk]; exact hcs j v hv) hvs h1v).mono ?_
      rintro e w' ⟨rfl, rfl⟩
      have hge := grownCap_ge w (l.length + 1) cap 3
      have hle := grownCap_le_maxLen w (l.length + 1) cap 3 (by simp only [maxLen]; omega)
      have st0 := Step.drew hw 1
      have st1 := Step.alloc st0.mem (.cells (l.map (Value.int .i64 ·) ++ [Value.int .i64 x] ++ (Builtin.zeroCells (Value.int .i64 0).cells (grownCap w (l.length + 1) cap 3 - (l.length + 1))).toList).toArray 3 (0, 0))
      have hobj : Obj.cells (l.map (Value.int .i64 ·) ++ [Value.int .i64 x] ++ (Builtin.zeroCells (Value.int .i64 0).cells (grownCap w (l.length + 1) cap 3 - (l.length + 1))).toList).toArray 3 (0, 0) = Obj.cells ((l.map (Value.int .i64 ·) ++ [Value.int .i64 x]).toArray ++ Builtin.zeroCells (Value.int .i64 0).cells (grownCap w (l.length + 1) cap 3 - (l.length + 1))) 3 (0, 0) := by simp
      have st2 := (st0.trans st1).drop (List.Sublist.cons_cons _ (List.nil_sublist _))
      refine ⟨_, rfl, G, [(w.heap.size, .cells (l.map (Value.int .i64 ·) ++ [Value.int .i64 x] ++ (Builtin.zeroCells (Value.int .i64 0).cells (grownCap w (l.length + 1) cap 3 - (l.length + 1))).toList).toArray 3 (0, 0))], ?_, rfl, growOf (by simp) ⟨_, by rw [List.take_length, List.drop_length]; simp; rfl⟩ ?_ hge hle⟩
      · have st3 := st2
        conv at st3 => arg 6; rw [hobj]
        exact st3
      · rw [show laysInsert_ren.t 3 = 3 from rfl]
        simp [size_zeroCells, Value.cells]
        omega
theorem putCells_list {cs spare : List Value} {d : List Int} (h : cs.length = d.length) : Go.Sort.putCells (Value.int .i64) 0 d.toArray (cs ++ spare).toArray = (d.map (Value.int .i64 ·) ++ spare).toArray := by
  apply Array.ext_getElem?
  intro k
  simp only [Go.Sort.putCells, Array.getElem?_mapIdx, List.getElem?_toArray]
  by_cases hk : k < d.length
  · rw [List.getElem?_append_left (by omega), List.getElem?_append_left (by simpa using hk), List.getElem?_eq_getElem (by omega)]
    simp [hk]
  · rw [List.getElem?_append_right (by omega), List.getElem?_append_right (by simp; omega)]
    simp only [List.length_map, h]
    cases hs : spare[k - d.length]? with
    | none => simp
    | some v => simp [hk]
theorem delete_s {G : GH} {l : List Int} {i : Nat} {b cap : Nat} {spare : List Value} (hi : i < l.length) (hc : l.length ≤ cap) (hm : cap ≤ maxLen) (hcap : (l.map (Value.int .i64 ·) ++ spare).length = cap) :
    Con Tryz.prog 305 #[.slice (some ⟨b, 0, none⟩) l.length cap, .int .i64 i, .int .i64 ((i + 1 : Nat) : Int)] G [(b, .cells (l.map (Value.int .i64 ·) ++ spare).toArray 3 (0, 0))]
      (fun r G' μ' => G' = G ∧ Grow 3 1 r (l.length - 1) ((l.take i ++ l.drop (i + 1)).map (Value.int .i64 ·)) μ') := by
  refine Con.ofCallsM fun w hw => ?_
  have hm' := hm
  simp only [maxLen] at hm'
  have h1 : Has [(b, .cells (l.map (Value.int .i64 ·) ++ spare).toArray 3 (0, 0))] b (l.map (Value.int .i64 ·) ++ spare) 3 := List.Mem.head _
  refine (Any.slices_Delete_int laysDelete b 0 cap i (i + 1) l w (fun j hj => ⟨?_, frozenOwn hw h1 _⟩) hc hm' (by omega) (by omega)).mono ?_
  · have hj' : j < l.length := by simpa using hj
    rw [cellOwn hw h1 (v := .int .i64 l[j]) (by rw [List.getElem?_append_left (by simpa using hj'), List.getElem?_map, List.getElem?_eq_getElem hj']; rfl)]
    simp [hj']
  · rintro e w' ⟨rfl, q, rfl⟩
    have st0 := Step.drew hw q
    have hdl : (l.take i ++ l.drop (i + 1) ++ List.replicate (i + 1 - i) 0).length = l.length := by simp; omega
    have st1 : Step G _ _ G [(b, .cells ((l.take i ++ l.drop (i + 1) ++ List.replicate (i + 1 - i) 0).map (Value.int .i64 ·) ++ spare).toArray 3 (0, 0))] _ := Step.map (f := Go.Sort.putCells (Value.int .i64) 0 (l.take i ++ l.drop (i + 1) ++ List.replicate (i + 1 - i) 0).toArray) st0.mem h1 (putCells_list (by rw [hdl]; simp)) (.here _ _)
    refine ⟨_, rfl, G, _, st0.trans st1, rfl, ?_⟩
    rw [show i + 1 - i = 1 by omega]
    refine growOf (by simp; omega) ⟨Value.int .i64 0 :: spare, by simp⟩ ?_ (by omega) hm
    rw [List.length_append, List.length_map] at hcap ⊢
    simp
    omega
end Go.Proofs.YtmdeeokejdkceaaGreatDoor
/-
  conf (layer 11), the fourth part: members with a change.
-/
set_option linter.unusedSimpArgs false
set_option linter.unusedVariables false
namespace Go.Proofs.YtmdeeokejdkceaaGreatDoor
open Go.Vx Go.ChangeShapes Go.WideShapes Go.ChangeAt Go.RowKit
def changedL (l : List Int) (kind n : Int) : List Int :=
  if kind = 7 ∧ l.contains n = false ∧ 1 ≤ n ∧ n ≤ 9 then l.take (l.countP (· < n)) ++ [n] ++ l.drop (l.countP (· < n))
  else if kind = 8 ∧ l.contains n = true ∧ 1 < l.length then l.take (l.countP (· < n)) ++ l.drop (l.countP (· < n) + 1) else []
theorem MemOK.sorted {l : List Int} (h : MemOK l) : l.Pairwise (· < ·) := by
  rw [List.pairwise_iff_getElem]
  obtain ⟨_, h⟩ := h
  have key : ∀ (d i : Nat) (hi : i + d + 1 < l.length), l[i] < l[i + d + 1] := by
    intro d
    induction d with
    | zero =>
      intro i hi
      have := (h (i + 1) (by omega)).2.2 (by omega)
      simpa using this
    | succ d ih =>
      intro i hi
      have h1 := ih i (by omega)
      have h2 := (h (i + (d + 1) + 1) hi).2.2 (by omega)
      have h3 : l[i + (d + 1) + 1 - 1] = l[i + d + 1] := by congr 1
      rw [h3] at h2
      omega
  intro i j hi hj hij
  have := key (j - i - 1) i (by omega)
  have h3 : l[i + (j - i - 1) + 1]'(by omega) = l[j] := by congr 1; omega
  omega
theorem MemOK.weak {l : List Int} (h : MemOK l) : l.Pairwise (· ≤ ·) := h.sorted.imp fun h => Int.le_of_lt h
theorem countP_lt {l : List Int} {n : Int} (h : l.contains n = true) : l.countP (· < n) < l.length := by
  have h1 : n ∈ l := by simpa using h
  rw [Nat.lt_iff_le_and_ne]
  refine ⟨List.countP_le_length, fun e => ?_⟩
  have := List.countP_eq_length.1 e n h1
  simp at this
theorem changed_s {G : GH} {l : List Int} {sv : Value} (kind n : Int) (hs : Sl G 1 (IntR .i64) sv l) (hok : MemOK l) (hbig : l.length ≤ 1048000) (hn : (Lit.int .i64 n).wf = true) :
    Con Tryz.prog 270 #[sv, .int .i64 kind, .int .i64 n] G [] (fun r G' μ' => μ' = [] ∧ ∃ v, r = .tuple #[v, .bool (decide (0 < (changedL l kind n).length))] ∧ Sl G' 1 (IntR .i64) v (changedL l kind n)) := by
  have hsearch := search_s n hs hok.1 (by omega) hok.weak
  obtain ⟨A, c, rfl, hlc, hcm, hsome, hel, hwf⟩ := hs.openInt
  simp only [maxLen] at hcm
  (refine v_enter Tryz.func270 rfl Tryz.ntmps270 rfl ?_; intro B _)
  repeat' (first | apply v_seq | apply v_region | apply v_nil | apply v_skip | apply v_block | apply v_blk | (apply v_take; (case hg => rfl)) | (apply v_pass; (case hg => rfl); (case hn => rfl); (case hd => rfl)) | (apply v_pure; (case hop => first | (apply p_move <;> rfl) | (apply p_eq <;> rfl) | (apply p_gt <;> rfl) | (apply p_le <;> rfl) | (apply p_ge <;> rfl) | (apply p_assign <;> rfl) | (apply p_pickT <;> rfl) | (apply p_pickF <;> rfl) | (apply p_not <;> rfl) | (apply p_lenSlice <;> rfl) | (apply p_extract0 <;> rfl) | (apply p_extract1 <;> rfl) | fail); (case hd => rfl)) | (apply v_condF; (case hc => rfl)) | (apply v_cond; (case hc => rfl); all_goals (intro h; (try simp only [reduceCtorEq, zzz] at h))) | (apply v_guardB; (case h1 => rfl); (case h2 => rfl); all_goals (intro h; (try simp only [reduceCtorEq, zzz] at h); first | (exfalso; omega) | skip)) | (apply v_callJ (hs := hsearch); (case ha => rfl); (case hd => rfl)) | fail)
  all_goals try
    (refine v_ret [] (outsA2 rfl rfl rfl) (by repeat (exact List.Sublist.refl _)) ?_
     have e : changedL l kind n = [] := by
       unfold changedL
       rw [if_neg, if_neg]
       · rintro ⟨h1, h2, h3⟩
         first | omega | simp_all
       · rintro ⟨h1, h2, h3⟩
         first | omega | simp_all
     rw [e]
     exact ⟨rfl, _, rfl, Sl.nil⟩)
  · have e : changedL l kind n = l.take (l.countP (· < n)) ++ [n] ++ l.drop (l.countP (· < n)) := by
      unfold changedL
      rw [if_pos]
      exact ⟨by assumption, by assumption, by omega, by omega⟩
    refine v_call (μ1 := []) (μ2 := _) rfl (clone_s hs (by omega)) (List.Perm.refl _) rfl ?_
    rintro r G' μ1 - ⟨rfl, hlen, ⟨-, h0, -⟩ | ⟨b, cap, spare, rfl, rfl, h1, h2, h3⟩⟩
    · have := hok.1; omega
    have hcP : l.countP (· < n) ≤ l.length := List.countP_le_length
    repeat' (first | (apply v_pure; (case hop => (apply p_move <;> rfl)); (case hd => rfl)) | (apply v_buildSlice; (case hz => rfl); (case hi => rfl); (case hv => (simp only [List.map_cons, List.map_nil]; repeat (first | with_reducible exact evs_nil | (apply evs_cons; (case h1 => rfl))))); (case hp => (apply pk_cons; (case hc => rfl); (case hs => rfl); (case h => (with_reducible exact pk_nil)); (case he => ((repeat (first | with_reducible exact ap_nil | apply ap_cons)); done)))); (case hb => rfl); (case hd => rfl); intro b) | fail)
    refine v_call (μ2 := []) rfl (insert_s (l := l) (i := l.countP (· < n)) (x := n) (spare := spare) hok.1 (by omega) hcP h1 h2 (by rw [h3]; omega)) (by rw [List.append_nil]; exact List.Perm.swap _ _ _) rfl ?_
    rintro r G'' μ1 - ⟨rfl, hg⟩
    refine v_freeze (ν := μ1) (μ := []) ?_
    intro G1 hle hG
    repeat' (first | apply v_nil | (apply v_pure; (case hop => (apply p_assign <;> rfl)); (case hd => rfl)) | fail)
    refine v_ret [] (outsA2 rfl rfl rfl) (by repeat (exact List.Sublist.refl _)) ?_
    rw [e]
    refine ⟨rfl, _, ?_, Grow.ints (l := l.take (l.countP (· < n)) ++ [n] ++ l.drop (l.countP (· < n))) (by
      have : (l.take (l.countP (· < n)) ++ [n] ++ l.drop (l.countP (· < n))).length = l.length + 1 := by simp; omega
      rw [this]; exact hg) hG ?_⟩
    · rw [decide_eq_true (by simp; omega)]
    · intro x hx
      simp only [List.mem_append, List.mem_singleton] at hx
      rcases hx with (hx | hx) | hx
      · exact hwf x (List.mem_of_mem_take hx)
      · rw [hx]; exact hn
      · exact hwf x (List.mem_of_mem_drop hx)
  · have e : changedL l kind n = l.take (l.countP (· < n)) ++ l.drop (l.countP (· < n) + 1) := by
      unfold changedL
      rw [if_neg (by rintro ⟨h1, _⟩; omega), if_pos]
      exact ⟨by assumption, by assumption, by omega⟩
    refine v_call (μ1 := []) (μ2 := _) rfl (clone_s hs (by omega)) (List.Perm.refl _) rfl ?_
    rintro r G' μ1 - ⟨rfl, hlen, ⟨-, h0, -⟩ | ⟨b, cap, spare, rfl, rfl, h1, h2, h3⟩⟩
    · have := hok.1; omega
    have hcP : l.countP (· < n) < l.length := countP_lt (by assumption)
    have hn1 : 1 < l.length := by omega
    repeat' (first | (apply v_pure; (case hop => first | (apply p_move <;> rfl) | (apply p_add; (case hx => rfl); (case hy => rfl); (case h => omega)) | fail); (case hd => rfl)) | fail)
    refine v_call (μ2 := []) rfl (delete_s (l := l) (i := l.countP (· < n)) (spare := spare) hcP h1 h2 (by rw [h3]; omega)) (List.Perm.refl _) rfl ?_
    rintro r G'' μ1 - ⟨rfl, hg⟩
    refine v_freeze (ν := μ1) (μ := []) ?_
    intro G1 hle hG
    repeat' (first | apply v_nil | (apply v_pure; (case hop => (apply p_assign <;> rfl)); (case hd => rfl)) | fail)
    refine v_ret [] (outsA2 rfl rfl rfl) (by repeat (exact List.Sublist.refl _)) ?_
    rw [e]
    refine ⟨rfl, _, ?_, Grow.ints (l := l.take (l.countP (· < n)) ++ l.drop (l.countP (· < n) + 1)) (by
      have : (l.take (l.countP (· < n)) ++ l.drop (l.countP (· < n) + 1)).length = l.length - 1 := by simp; omega
      rw [this]; exact hg) hG ?_⟩
    · rw [decide_eq_true (by simp; omega)]
    · intro x hx
      simp only [List.mem_append] at hx
      rcases hx with hx | hx
      · exact hwf x (List.mem_of_mem_take hx)
      · exact hwf x (List.mem_of_mem_drop hx)
theorem countP_zero {l : List Int} {n : Int} (h : ∀ x ∈ l, n ≤ x) : l.countP (· < n) = 0 := by
  rw [List.countP_eq_zero]
  intro x hx
  have := h x hx
  simp; omega
theorem insert_sorted {n : Int} : ∀ {l : List Int}, l.Pairwise (· < ·) → n ∉ l → (l.take (l.countP (· < n)) ++ [n] ++ l.drop (l.countP (· < n))).Pairwise (· < ·)
  | [], _, _ => by simp
  | a :: l, h, hn => by
    rw [List.pairwise_cons] at h
    simp only [List.mem_cons, not_or] at hn
    by_cases ha : a < n
    · have ih := insert_sorted h.2 hn.2
      rw [List.countP_cons_of_pos (by simpa using ha), List.take_succ_cons, List.drop_succ_cons]
      simp only [List.cons_append]
      rw [List.pairwise_cons]
      refine ⟨fun x hx => ?_, ih⟩
      simp only [List.mem_append, List.mem_singleton] at hx
      rcases hx with (hx | hx) | hx
      · exact h.1 x (List.mem_of_mem_take hx)
      · omega
      · exact h.1 x (List.mem_of_mem_drop hx)
    · have hz : (a :: l).countP (· < n) = 0 := countP_zero (by
        intro x hx
        simp only [List.mem_cons] at hx
        rcases hx with hx | hx
        · omega
        · have := h.1 x hx; omega)
      rw [hz]
      simp only [List.take_zero, List.drop_zero, List.nil_append, List.singleton_append]
      rw [List.pairwise_cons, List.pairwise_cons]
      refine ⟨fun x hx => ?_, h⟩
      simp only [List.mem_cons] at hx
      rcases hx with hx | hx
      · omega
      · have := h.1 x hx; omega
theorem delete_filter {n : Int} : ∀ {l : List Int}, l.Pairwise (· < ·) → n ∈ l → l.take (l.countP (· < n)) ++ l.drop (l.countP (· < n) + 1) = l.filter fun m => decide (m ≠ n)
  | [], _, hn => by simp at hn
  | a :: l, h, hn => by
    rw [List.pairwise_cons] at h
    simp only [List.mem_cons] at hn
    by_cases ha : a < n
    · have hn' : n ∈ l := by rcases hn with e | e; · omega
                             · exact e
      have ih := delete_filter h.2 hn'
      rw [List.countP_cons_of_pos (by simpa using ha), List.take_succ_cons, List.drop_succ_cons, List.cons_append, ih, List.filter_cons_of_pos (by simp; omega)]
    · have hz : (a :: l).countP (· < n) = 0 := countP_zero (by
        intro x hx
        simp only [List.mem_cons] at hx
        rcases hx with hx | hx
        · omega
        · have := h.1 x hx; omega)
      have hna : a = n := by
        rcases hn with e | e
        · exact e.symm
        · have := h.1 n e; omega
      rw [hz, List.filter_cons_of_neg (by simp [hna])]
      simp only [List.take_zero, List.nil_append, Nat.zero_add, List.drop_succ_cons, List.drop_zero]
      refine (List.filter_eq_self.2 fun x hx => ?_).symm
      have := h.1 x hx
      simp; omega
theorem MemOK.range {l : List Int} (h : MemOK l) {x : Int} (hx : x ∈ l) : 1 ≤ x ∧ x ≤ 9 := by
  obtain ⟨i, hi, rfl⟩ := List.getElem_of_mem hx
  have := h.2 i hi
  omega
def CoCells (G : GH) (l : List Co) (css : List (List Value)) : Prop := css.length = l.length ∧ ∀ (i : Nat) x cs, l[i]? = some x → css[i]? = some cs → cs.length = 2 ∧ CoR G x cs
theorem CoCells.le {G G' : GH} {l : List Co} {css : List (List Value)} (h : CoCells G l css) (hle : GH.le G G') : CoCells G' l css :=
  ⟨h.1, fun i x cs h1 h2 => let ⟨a, b⟩ := h.2 i x cs h1 h2; ⟨a, b.le hle⟩⟩
theorem CoCells.push {G : GH} {l : List Co} {css : List (List Value)} {x : Co} {cs : List Value} (h : CoCells G l css) (h2 : cs.length = 2) (hx : CoR G x cs) : CoCells G (l ++ [x]) (css ++ [cs]) := by
  refine ⟨by simp [h.1], fun i y ds h3 h4 => ?_⟩
  by_cases hi : i < l.length
  · rw [List.getElem?_append_left hi] at h3
    rw [List.getElem?_append_left (by rw [h.1]; exact hi)] at h4
    exact h.2 i y ds h3 h4
  · rw [List.getElem?_append_right (by omega)] at h3
    rw [List.getElem?_append_right (by rw [h.1]; omega), h.1] at h4
    have : i - l.length = 0 := by
      have := (List.getElem?_eq_some_iff.1 h3).1
      simp at this; omega
    rw [this] at h3 h4
    simp at h3 h4
    subst h3; subst h4
    exact ⟨h2, hx⟩
theorem CoCells.nil {G : GH} : CoCells G [] [] := ⟨rfl, fun i x cs h => by simp at h⟩
theorem CoCells.grow {G : GH} {l : List Co} {css : List (List Value)} {v : Value} {ν : OH} (h : CoCells G l css) (hg : Grow 61 2 v l.length css.flatten ν) {G' : GH} (hle : GH.le G G') (hG : ∀ b o, (b, o) ∈ ν → G' b = some o) : Cos G' v l :=
  hg.sl hG h.1 (h.le hle).2
theorem permR7 {x y : Nat × Obj} {ν μ : OH} : (x :: (ν ++ (y :: μ))).Perm (μ ++ (x :: (ν ++ [y]))) := by
  have h1 : (x :: (ν ++ (y :: μ))) = (x :: (ν ++ [y])) ++ μ := by simp
  rw [h1]
  exact List.perm_append_comm
theorem cloneL_s {G : GH} {l : List Co} {sv : Value} (hs : Cos G sv l) (hl : l.length ≤ 1000) (hbig : ∀ c ∈ l, c.2.length ≤ 1048576) :
    Con Tryz.prog 150 #[sv] G [] (fun r G' μ' => ∃ css, CoCells G' l css ∧ Grow 61 2 r l.length css.flatten μ') := by
  obtain ⟨A, c, mA, mc, rfl, hlc, hcm, hsome, hcp, hc0, hc1, hmv, hwf⟩ := coOpen hs
  simp only [maxLen] at hcm
  (refine v_enter Tryz.func150 rfl Tryz.ntmps150 rfl ?_; intro B _)
  repeat' (first | apply v_seq | apply v_region | apply v_nil | apply v_block | (apply v_pure; (case hop => first | (apply p_move <;> rfl) | (apply p_assign <;> rfl) | (apply p_lenSlice <;> rfl) | fail); (case hd => rfl)) | fail)
  refine v_loop [8, 7, 6, 3] (fun us G' μ' => GH.le G G' ∧ ∃ (k : Nat) (out : Value) (css : List (List Value)), k ≤ l.length ∧ us = [Value.int .i64 (k : Int), .int .i64 l.length, .slice A l.length c, out] ∧ CoCells G' (l.take k) css ∧ Grow 61 2 out k css.flatten μ') (fun us => l.length - (headI us).toNat) rfl ⟨GH.le_refl _, 0, _, [], by omega, rfl, CoCells.nil, Grow.nil _ _⟩ ?_
  rintro us G' μ' ⟨hle, k, out, css, hk, rfl, hcc, hg⟩
  repeat' (first | apply v_seq | apply v_region | apply v_nil | apply v_skip | apply v_block | (apply v_exit; (case hp => rfl)) | (apply v_pure; (case hop => first | (apply p_move <;> rfl) | (apply p_lt <;> rfl) | (apply p_assign <;> rfl) | (apply p_indexAddrS; (case hx => rfl); (case hi => rfl); (case h0 => omega); (case h => omega); (case hA => (apply_assumption; omega))) | fail); (case hd => rfl)) | (apply v_cond; (case hc => rfl); all_goals (intro h; (try simp only [reduceCtorEq, zzz] at h))) | (apply v_read; (case hop => (apply r_loadN; rfl; exact CellsAt.frozen ((hcp _ (by omega)).le hle); rfl)); (case hd => rfl)) | (apply v_alloc; (case hz => rfl); (case hd => rfl); intro b) | (apply v_store; (case hp => rfl); (case hx => rfl); (case hc => rfl); (case hsz => rfl); (case h1 => rfl); (case hb => (repeat (exact mhd _))); (case hfit => exact nle rfl); (case hov => ((repeat (first | with_reducible exact ov_nil | apply ov_cons)); done)); (case hu => repeat (exact Upd.here _ _))) | fail)
  · have hlt : k < l.length := by omega
    have hlt2 := hbig _ (List.getElem_mem hlt)
    refine d_start [(b, .cells ([.int .i64 (l[k]'hlt).1, .slice (mA k) (l[k]'hlt).2.length (mc k)]).toArray 61 (0, 0))] (by kernel_rfl) (by kernel_rfl) (by kernel_rfl) (by intro e he; (simp at he; simp [he]; done)) ?_
    all_goals (apply dtk 0; (case hi => rfl); (case hop => (apply prd; apply p_move <;> rfl)); (case hq => kernel_rfl))
    all_goals (apply dtk 1; (case hi => rfl); (case hop => (apply prd; apply p_fieldAddrB <;> rfl)); (case hq => kernel_rfl))
    all_goals (apply dtk 2; (case hi => rfl); (case hop => first | (apply r_loadNo; (case hx => rfl); (case h => (repeat (fail))); (case hd => (repeat (fail))); (case hn => rfl)) | (apply r_load1; rfl; (apply Cell.own; (case h => (repeat (exact mhd _))); rfl)) | (apply r_loadN; rfl; (apply CellsAt.own; (case h => (repeat (fail)))); rfl)); (case hq => kernel_rfl))
    all_goals (apply dtk 3; (case hi => rfl); (case hop => (apply prd; apply p_fieldAddrB <;> rfl)); (case hq => kernel_rfl))
    all_goals (apply dtk 4; (case hi => rfl); (case hop => first | (apply r_loadNo; (case hx => rfl); (case h => (repeat (fail))); (case hd => (repeat (fail))); (case hn => rfl)) | (apply r_load1; rfl; (apply Cell.own; (case h => (repeat (exact mhd _))); rfl)) | (apply r_loadN; rfl; (apply CellsAt.own; (case h => (repeat (fail)))); rfl)); (case hq => kernel_rfl))
    all_goals ((apply d_call 5 (hs := clone_s ((hmv _ hlt).mono hle) hlt2); (case hi => rfl); (case hr => kernel_rfl);  (case ha => rfl); (case hp => exact List.Perm.refl _); (case hd => rfl); (case hν' => intro e he; simp at he; simp [he]); rintro r1 _ ν1 _ ⟨rfl, hg1⟩; obtain ⟨A1, c1, rfl, -, -⟩ := hg1.shape))
    all_goals (apply dtk 6; (case hi => rfl); (case hop => (apply prd; apply p_build; (case hz => rfl); (case hv => (simp only [List.map_cons, List.map_nil]; repeat (first | with_reducible exact evs_nil | (apply evs_cons; (case h1 => rfl))))); (case hb => (apply bldL; repeat (first | exact bld_nil | (apply bld_cons; (case hpf => rfl); (case hc => rfl); (case hs => rfl); (case hl => rfl); (case ho => ((repeat (first | with_reducible exact ov_nil | apply ov_cons)); done)))))))); (case hq => kernel_rfl))
    all_goals (apply d_buildSlice 7; (case hi => rfl); (case hr => kernel_rfl); (case hT => infer_instance); (case hL => infer_instance); (case hz => rfl); (case hl => rfl); (case hv => (simp only [List.map_cons, List.map_nil]; repeat (first | with_reducible exact evs_nil | (apply evs_cons; (case h1 => rfl))))); (case hp => (apply pk_cons; (case hc => rfl); (case hs => rfl); (case h => (with_reducible exact pk_nil)); (case he => ((repeat (first | with_reducible exact ap_nil | apply ap_cons)); done)))); (case hb => rfl); (case hd => rfl); (case hν => intro e he; (simp at he; simp [he]; done)); intro b7)
    all_goals (apply d_append 8 (hg := hg) (q' := 1) (us := [.int .i64 (l[k]'hlt).1, .slice A1 _ c1]) (μr := (b7, _) :: (ν1 ++ [(b, _)])) (hp := permR7) (hsrc := Src.own (List.Mem.head _) rfl); (case hi => rfl); (case hr => kernel_rfl); (case hT => infer_instance); (case hL => infer_instance); (case hzs => rfl); (case hsz => omega); (case hs => rfl); (case hx => rfl); (case hb => omega); (case hb' => simp only [maxLen]; omega); (case hd => rfl); (case h1 => rfl); (case hν => intro e he; (simp at he; simp [he]; done)); intro out' ν' hg')
    all_goals (apply dtk 9; (case hi => rfl); (case hop => (apply prd; apply p_assign <;> rfl)); (case hq => kernel_rfl))
    all_goals (apply d_done; (case hr => kernel_rfl))
    repeat' (first | apply v_region | apply v_nil | apply v_blk | (apply v_pure; (case hop => first | (apply p_move <;> rfl) | (apply p_add; (case hx => rfl); (case hy => rfl); (case h => omega)) | fail); (case hd => rfl)) | fail)
    refine v_freezeP ν1 ν' [(b7, _), (b, _)] (by apply perm_of_count; intro p; simp only [List.append_eq, List.countP_append, List.countP_cons, List.countP_nil, Nat.zero_add, Nat.add_zero]; try ac_rfl) ?_
    intro G1 hle1 hG1
    refine v_again rfl ⟨GH.le_trans hle hle1, k + 1, out', css ++ [[.int .i64 (l[k]'hlt).1, .slice A1 (l[k]'hlt).2.length c1]], by omega, rfl, ?_, ?_⟩ (by simp [headI]; omega)
    · rw [List.take_succ_eq_append_getElem hlt]
      obtain ⟨_, _, _, _, _, _, _, hw⟩ := (hmv _ hlt).openInt
      exact (hcc.le hle1).push rfl ⟨_, rfl, hwf _ hlt, hg1.ints hG1 hw⟩
    · simpa using hg'
  · refine v_ret μ' (outsA1 rfl rfl) (List.Sublist.refl _) ?_
    obtain rfl : k = l.length := by omega
    rw [List.take_length] at hcc
    exact ⟨css, hcc, hg⟩
def lastC (l : List Co) : Co := l.getD (l.length - 1) (0, [])
theorem lastC_eq {l : List Co} (h : 0 < l.length) : lastC l = l[l.length - 1]'(by omega) := by
  rw [lastC, List.getD_eq_getElem?_getD, List.getElem?_eq_getElem (by omega)]; rfl
def fromOf (l : List Co) (x : Int) : Int := max (x + 4) (lastC l).1
def changeL (l : List Co) (x kind n : Int) : List Co := (if fromOf l x = (lastC l).1 then l.take (l.length - 1) else l) ++ [(fromOf l x, changedL (lastC l).2 kind n)]
open Classical in
noncomputable def changeR (l : List Co) (x kind n : Int) : List Co × Int :=
  if ¬ ConfOK l then ([], 3) else if x < 1 ∨ 4294967292 < x then ([], 6) else if (changedL (lastC l).2 kind n).length = 0 then ([], 16) else (changeL l x kind n, 0)
theorem CoCells.take {G : GH} {l : List Co} {css : List (List Value)} (h : CoCells G l css) (k : Nat) : CoCells G (l.take k) (css.take k) :=
  ⟨by simp [h.1], fun i x cs h1 h2 => by
    rw [List.getElem?_take] at h1 h2
    split at h1
    · rename_i hi
      rw [if_pos hi] at h2
      exact h.2 i x cs h1 h2
    · cases h1⟩
theorem flatten_take2 : ∀ (css : List (List Value)) (k : Nat), (∀ cs ∈ css, cs.length = 2) → css.flatten.take (k * 2) = (css.take k).flatten
  | [], k, _ => by simp
  | cs :: css, 0, _ => by simp
  | cs :: css, k + 1, h => by
    have h1 : cs.length = 2 := h cs (by simp)
    rw [List.take_succ_cons, List.flatten_cons, List.flatten_cons, List.take_append, h1, List.take_of_length_le (by omega), show (k + 1) * 2 - 2 = k * 2 by omega, flatten_take2 css k fun c hc => h c (by simp [hc])]
theorem CoCells.two {G : GH} {l : List Co} {css : List (List Value)} (h : CoCells G l css) : ∀ cs ∈ css, cs.length = 2 := fun cs hcs => by
  obtain ⟨i, hi, rfl⟩ := List.getElem_of_mem hcs
  have h1 := h.1
  exact (h.2 i _ _ (List.getElem?_eq_getElem (by omega)) (List.getElem?_eq_getElem hi)).1
theorem CoCells.flen {G : GH} {l : List Co} {css : List (List Value)} (h : CoCells G l css) : css.flatten.length = l.length * 2 := by
  rw [← h.1]
  have := h.two
  clear h
  induction css with
  | nil => simp
  | cons cs css ih =>
    rw [List.flatten_cons, List.length_append, ih fun c hc => this c (by simp [hc]), this cs (by simp), List.length_cons]; omega
theorem change_s {G : GH} {l : List Co} {sv : Value} (x kind n : Int) (hs : Cos G sv l) (hl : l.length ≤ 1000) (hbig : ∀ c ∈ l, c.2.length ≤ 1048000) (hn : (Lit.int .i64 n).wf = true) :
    Con Tryz.prog 223 #[sv, .int .i64 x, .int .i64 kind, .int .i64 n] G [] (fun r G' μ' => μ' = [] ∧ ∃ v, r = .tuple #[v, .int .i64 (changeR l x kind n).2] ∧ Cos G' v (changeR l x kind n).1) := by
  have hclone := fun (G' : GH) (hle : GH.le G G') => cloneL_s (hs.le hle) hl (fun c hc => by have := hbig c hc; omega)
  have hck := check_s hs
  obtain ⟨A, c, mA, mc, rfl, hlc, hcm, hsome, hcp, hc0, hc1, hmv, hwf⟩ := coOpen hs
  simp only [maxLen] at hcm
  by_cases hok : ConfOK l
  · rw [if_pos hok] at hck
    have h0 := hok.1.1
    have hlt : l.length - 1 < l.length := by omega
    have hlast := lastC_eq h0
    obtain ⟨lz, mz, hz⟩ : ∃ lz mz, lastC l = (lz, mz) := ⟨_, _, rfl⟩
    have hz' : l[l.length - 1]'hlt = (lz, mz) := by rw [← hlast, hz]
    obtain ⟨hmem, hfrom, -⟩ := hok.2 _ hlt
    have hfw := hwf _ hlt
    have hcP0 := hcp _ hlt
    have hmz := hmv _ hlt
    have hbz := hbig _ (List.getElem_mem hlt)
    rw [hz'] at hmem hfrom hfw hcP0 hmz hbz
    simp only at hmem hfrom hfw hcP0 hmz hbz
    have hch := changed_s kind n hmz hmem hbz hn
    have e1 : (((l.length : Nat) : Int) - 1).toNat = l.length - 1 := by omega
    have hcP1 : CellsG G ((adr A).add ((((l.length : Nat) : Int) - 1).toNat * 2)) [.int .i64 lz, .slice (mA (l.length - 1)) mz.length (mc (l.length - 1))] := by rw [e1]; exact hcP0
    have hwf' := bounds_i64 hfw
    (refine v_enter Tryz.func223 rfl Tryz.ntmps223 rfl ?_; intro B _)
    repeat' (first | apply v_seq | apply v_region | apply v_nil | apply v_skip | (apply v_take; (case hg => rfl)) | (apply v_pass; (case hg => rfl); (case hn => rfl); (case hd => rfl)) | (apply v_pure; (case hop => first | (apply p_move <;> rfl) | (apply p_nes <;> rfl) | (apply p_lt <;> rfl) | (apply p_gt <;> rfl) | (apply p_assign <;> rfl) | (apply p_pickT <;> rfl) | (apply p_pickF <;> rfl) | (apply p_lenSlice <;> rfl) | (apply p_fieldAddrB <;> rfl) | (apply p_sub; (case hx => rfl); (case hy => rfl); (case h => omega)) | (apply p_indexAddrS; (case hx => rfl); (case hi => rfl); (case h0 => omega); (case h => omega); (case hA => (apply_assumption; omega))) | fail); (case hd => rfl)) | (apply v_condT; (case hc => rfl)) | (apply v_condF; (case hc => rfl)) | (apply v_cond; (case hc => rfl); all_goals (intro h; (try simp only [reduceCtorEq, zzz] at h))) | (apply v_guardB; (case h1 => rfl); (case h2 => rfl); all_goals (intro h; (try simp only [reduceCtorEq, zzz] at h))) | (apply v_callJ (hs := hck); (case ha => rfl); (case hd => rfl)) | (apply v_read; (case hop => (apply r_loadN; rfl; exact CellsAt.frozen hcP1; rfl)); (case hd => rfl)) | (apply v_read; (case hop => (apply r_load1; rfl; (apply Cell.own; (case h => (repeat (exact mhd _))); rfl))); (case hd => rfl)) | (apply v_alloc; (case hz => rfl); (case hd => rfl); intro b) | (apply v_store; (case hp => rfl); (case hx => rfl); (case hc => rfl); (case hsz => rfl); (case h1 => rfl); (case hb => (repeat (exact mhd _))); (case hfit => exact nle rfl); (case hov => ((repeat (first | with_reducible exact ov_nil | apply ov_cons)); done)); (case hu => repeat (exact Upd.here _ _))) | fail)
    all_goals try
      (refine v_ret [] (outsA2 rfl rfl rfl) (by repeat (exact List.Sublist.refl _)) ?_
       have e : changeR l x kind n = ([], 6) := by
         unfold changeR
         rw [if_neg (by simpa using hok), if_pos (by omega)]
       rw [e]
       exact ⟨rfl, _, rfl, Sl.nil⟩)
    refine v_call (μ1 := []) (μ2 := _) rfl hch (List.Perm.refl _) rfl ?_
    rintro r G' μ1 hle ⟨rfl, mv, rfl, hmv'⟩
    by_cases hno : 0 < (changedL mz kind n).length
    · rw [decide_eq_true hno]
      repeat' (first | apply v_seq | apply v_region | apply v_nil | apply v_skip | (apply v_pure; (case hop => first | (apply p_move <;> rfl) | (apply p_assign <;> rfl) | (apply p_not <;> rfl) | (apply p_fieldAddrB <;> rfl) | (apply p_extract0 <;> rfl) | (apply p_extract1 <;> rfl) | (apply p_add; (case hx => rfl); (case hy => rfl); (case h => omega)) | (apply p_max <;> rfl) | fail); (case hd => rfl)) | (apply v_condF; (case hc => rfl)) | (apply v_read; (case hop => (apply r_load1; rfl; (apply Cell.own; (case h => (repeat (exact mhd _))); rfl))); (case hd => rfl)) | fail)
      refine v_call (μ1 := []) (μ2 := _) rfl (hclone G' hle) (List.Perm.refl _) rfl ?_
      rintro r G2 ν1 hle2 ⟨css, hcc, hg⟩
      have hG02 := GH.le_trans hle hle2
      obtain ⟨A2, c2, rfl, h2a, h2b⟩ := hg.shape
      simp only [maxLen] at h2b
      obtain ⟨mA', mc', rfl, hmc1, hmc2, _⟩ := hmv'.openInt
      have hF : fromOf l x = max (x + 4) lz := by rw [fromOf, hz]
      have hR : changeR l x kind n = (changeL l x kind n, 0) := by
        unfold changeR
        rw [if_neg (by simpa using hok), if_neg (by omega), hz, if_neg (by simp only; omega)]
      have hwF : (Lit.int .i64 (max (x + 4) lz)).wf = true := WalkArith.wf_i64 (by omega)
      repeat' (first | apply v_seq | apply v_region | apply v_nil | apply v_skip | (apply v_pure; (case hop => first | (apply p_move <;> rfl) | (apply p_eq <;> rfl) | (apply p_assign <;> rfl) | (apply p_lenSlice <;> rfl) | (apply p_fieldAddrB <;> rfl) | (apply p_sub; (case hx => rfl); (case hy => rfl); (case h => omega)) | (apply p_build; (case hz => rfl); (case hv => (simp only [List.map_cons, List.map_nil]; repeat (first | with_reducible exact evs_nil | (apply evs_cons; (case h1 => rfl))))); (case hb => (apply bldL; repeat (first | exact bld_nil | (apply bld_cons; (case hpf => rfl); (case hc => rfl); (case hs => rfl); (case hl => rfl); (case ho => ((repeat (first | with_reducible exact ov_nil | apply ov_cons)); done))))))) | (apply p_slice3; (case hx => rfl); (case hh => rfl); (case hq => rfl); all_goals omega) | fail); (case hd => rfl)) | (apply v_cond; (case hc => rfl); all_goals (intro h; (try simp only [reduceCtorEq, zzz] at h))) | (apply v_read; (case hop => (apply r_load1; rfl; (apply Cell.own; (case h => (repeat (first | exact mhd _ | apply List.mem_append_right))); rfl))); (case hd => rfl)) | (apply v_buildSlice; (case hz => rfl); (case hi => rfl); (case hv => (simp only [List.map_cons, List.map_nil]; repeat (first | with_reducible exact evs_nil | (apply evs_cons; (case h1 => rfl))))); (case hp => (apply pk_cons; (case hc => rfl); (case hs => rfl); (case h => (with_reducible exact pk_nil)); (case he => ((repeat (first | with_reducible exact ap_nil | apply ap_cons)); done)))); (case hb => rfl); (case hd => rfl); intro b) | fail)
      · have e4 : changeL l x kind n = l.take (l.length - 1) ++ [(max (x + 4) lz, changedL mz kind n)] := by
          rw [changeL, hF, hz, if_pos (by assumption)]
        have hlen : 1 < l.length := by
          apply Classical.byContradiction
          intro hc
          have h1 : l[l.length - 1]'hlt = l[0] := by congr 1; omega
          have h2 := hok.1.2
          rw [← h1, hz'] at h2
          simp only at h2
          omega
        refine v_frz ν1 (by repeat (first | exact PickA.here _ | apply PickA.cons)) ?_
        intro G3 hle3 hG3
        obtain ⟨A3, c3, he, _, _, hcl⟩ := hg.cells hG3
        injection he with ea _ ec
        subst ea; subst ec
        obtain ⟨a3, rfl, hcl3⟩ := hcl (by omega)
        have hct := hcl3.take ((l.length - 1) * 2)
        rw [flatten_take2 _ _ hcc.two] at hct
        have hcct := (hcc.take (l.length - 1)).le hle3
        have htl : (l.take (l.length - 1)).length = l.length - 1 := by simp
        rw [e1]
        refine v_appendFull (e := 61) (sz := 2) (m := l.length - 1) (m' := 1) (us := [.int .i64 (max (x + 4) lz), .slice mA' (changedL mz kind n).length mc']) rfl rfl rfl (Src.frozen hct (by rw [hcct.flen, htl])) (Src.own (List.Mem.head _) rfl) (by omega) (by omega) (by omega) (by simp only [maxLen]; omega) rfl ?_
        intro v' ν' hg'
        refine v_frz ν' (by repeat (exact PickA.here _)) ?_
        intro G4 hle4 hG4
        repeat' (first | apply v_nil | (apply v_pure; (case hop => (apply p_assign <;> rfl)); (case hd => rfl)) | fail)
        refine v_ret [] (outsA2 rfl rfl rfl) (by repeat (exact List.nil_sublist _)) ?_
        rw [hR]
        refine ⟨rfl, _, rfl, ?_⟩
        have hfin := (hcct.le hle4).push (x := (max (x + 4) lz, changedL mz kind n)) (cs := [.int .i64 (max (x + 4) lz), .slice mA' (changedL mz kind n).length mc']) rfl ⟨_, rfl, hwF, hmv'.mono (GH.le_trans hle2 (GH.le_trans hle3 hle4))⟩
        simp only [e4]
        refine hfin.grow ?_ (GH.le_refl _) hG4
        rw [List.length_append, htl]
        simpa using hg'
      · have e4 : changeL l x kind n = l ++ [(max (x + 4) lz, changedL mz kind n)] := by
          rw [changeL, hF, hz, if_neg (by assumption)]
        refine v_append (e := 61) (sz := 2) (m' := 1) (us := [.int .i64 (max (x + 4) lz), .slice mA' (changedL mz kind n).length mc']) rfl (by omega) rfl rfl hg (PickA.perm (by repeat (first | exact PickA.here _ | apply PickA.cons))) (Src.own (List.Mem.head _) rfl) rfl (by omega) (by simp only [maxLen]; omega) rfl ?_
        intro v' ν' hg'
        refine v_frz ν' (by repeat (exact PickA.here _)) ?_
        intro G4 hle4 hG4
        repeat' (first | apply v_nil | (apply v_pure; (case hop => (apply p_assign <;> rfl)); (case hd => rfl)) | fail)
        refine v_ret [] (outsA2 rfl rfl rfl) (by repeat (exact List.nil_sublist _)) ?_
        rw [hR]
        refine ⟨rfl, _, rfl, ?_⟩
        have hfin := (hcc.le hle4).push (x := (max (x + 4) lz, changedL mz kind n)) (cs := [.int .i64 (max (x + 4) lz), .slice mA' (changedL mz kind n).length mc']) rfl ⟨_, rfl, hwF, hmv'.mono (GH.le_trans hle2 hle4)⟩
        simp only [e4]
        refine hfin.grow ?_ (GH.le_refl _) hG4
        simpa using hg'
    · rw [decide_eq_false hno]
      repeat' (first | apply v_seq | apply v_region | apply v_nil | (apply v_pure; (case hop => first | (apply p_move <;> rfl) | (apply p_assign <;> rfl) | (apply p_not <;> rfl) | (apply p_extract0 <;> rfl) | (apply p_extract1 <;> rfl) | fail); (case hd => rfl)) | (apply v_condT; (case hc => rfl)) | fail)
      refine v_ret [] (outsA2 rfl rfl rfl) (by repeat (exact List.nil_sublist _)) ?_
      have e : changeR l x kind n = ([], 16) := by
        unfold changeR
        rw [if_neg (by simpa using hok), if_neg (by omega), hz, if_pos (by simp only; omega)]
      rw [e]
      exact ⟨rfl, _, rfl, Sl.nil⟩
  · rw [if_neg hok] at hck
    (refine v_enter Tryz.func223 rfl Tryz.ntmps223 rfl ?_; intro B _)
    repeat' (first | apply v_seq | apply v_region | apply v_nil | (apply v_pure; (case hop => first | (apply p_move <;> rfl) | (apply p_ne <;> rfl) | (apply p_assign <;> rfl) | fail); (case hd => rfl)) | (apply v_cond; (case hc => rfl); all_goals (intro h; (try simp only [reduceCtorEq, zzz] at h); first | (exfalso; omega) | skip)) | (apply v_callJ (hs := hck); (case ha => rfl); (case hd => rfl)) | fail)
    refine v_ret [] (outsA2 rfl rfl rfl) (by repeat (exact List.Sublist.refl _)) ?_
    have e : changeR l x kind n = ([], 3) := by
      unfold changeR
      rw [if_pos hok]
    rw [e]
    exact ⟨rfl, _, rfl, Sl.nil⟩
def trimL (l : List Co) (x : Int) : List Co :=
  match l.drop (placeK l x l.length).toNat with
  | [] => []
  | c :: r => (1, c.2) :: r
open Classical in
noncomputable def trimR (l : List Co) (x : Int) : List Co := if ConfOK l ∧ 1 ≤ x then trimL l x else l
theorem CoCells.cons {G : GH} {y : Co} {l : List Co} {cs : List Value} {css : List (List Value)} (h : CoCells G (y :: l) (cs :: css)) : cs.length = 2 ∧ CoR G y cs ∧ CoCells G l css :=
  ⟨(h.2 0 y cs rfl rfl).1, (h.2 0 y cs rfl rfl).2, by have := h.1; simpa using this, fun i x ds h1 h2 => h.2 (i + 1) x ds (by simpa using h1) (by simpa using h2)⟩
theorem CoCells.mk {G : GH} {y : Co} {l : List Co} {cs : List Value} {css : List (List Value)} (h1 : cs.length = 2) (h2 : CoR G y cs) (h3 : CoCells G l css) : CoCells G (y :: l) (cs :: css) :=
  ⟨by simp [h3.1], fun i x ds h4 h5 => by
    cases i with
    | zero => simp at h4 h5; subst h4; subst h5; exact ⟨h1, h2⟩
    | succ i => exact h3.2 i x ds (by simpa using h4) (by simpa using h5)⟩
theorem trim_s {G : GH} {l : List Co} {sv : Value} (x : Int) (hs : Cos G sv l) (hl : l.length ≤ 1000) (hbig : ∀ c ∈ l, c.2.length ≤ 1048000) :
    Con Tryz.prog 84 #[sv, .int .i64 x] G [] (fun r G' μ' => μ' = [] ∧ Cos G' r (trimR l x)) := by
  have hck := check_s hs
  have hpl := place_s x hs
  have hs0 := hs
  obtain ⟨A, c, mA, mc, rfl, hlc, hcm, hsome, hcp, hc0, hc1, hmv, hwf⟩ := coOpen hs
  simp only [maxLen] at hcm
  by_cases hok : ConfOK l
  · rw [if_pos hok] at hck
    have h0 := hok.1.1
    have hp := placeK_le l x l.length
    have hn := fun (hx : l[0].1 ≤ x) => placeK_nonneg h0 hx l.length h0 (Nat.le_refl _)
    have h1 := hok.1.2
    (refine v_enter Tryz.func84 rfl Tryz.ntmps84 rfl ?_; intro B _)
    repeat' (first | apply v_seq | apply v_region | apply v_nil | apply v_skip | (apply v_take; (case hg => rfl)) | (apply v_pure; (case hop => first | (apply p_move <;> rfl) | (apply p_nes <;> rfl) | (apply p_lt <;> rfl) | (apply p_assign <;> rfl) | (apply p_pickF <;> rfl) | fail); (case hd => rfl)) | (apply v_cond; (case hc => rfl); all_goals (intro h; (try simp only [reduceCtorEq, zzz] at h))) | (apply v_callJ (hs := hck); (case ha => rfl); (case hd => rfl)) | fail)
    · refine v_ret [] (outsA1 rfl rfl) (by repeat (exact List.Sublist.refl _)) ?_
      rw [trimR, if_neg (by rintro ⟨_, h⟩; omega)]
      exact ⟨rfl, hs0⟩
    have hn' := hn (by omega)
    repeat' (first | (apply v_pure; (case hop => (apply p_sliceL; (case hx => rfl); (case hl => rfl); all_goals omega)); (case hd => rfl)) | (apply v_callJ (hs := hpl); (case ha => rfl); (case hd => rfl)) | fail)
    have hk : (placeK l x l.length).toNat ≤ l.length := by omega
    have hsd := Sl.drop hs0 hk
    have hdl : (l.drop (placeK l x l.length).toNat).length = l.length - (placeK l x l.length).toNat := by simp
    refine v_call (μ1 := []) (μ2 := []) rfl (cloneL_s hsd (by omega) (fun c hc => by have := hbig c (List.mem_of_mem_drop hc); omega)) (List.Perm.refl _) rfl ?_
    rintro r G2 ν1 hle ⟨css, hcc, hlen, ⟨-, hz, -⟩ | ⟨b, cap, spare, rfl, rfl, h2a, h2b, h2c⟩⟩
    · omega
    have ht : trimR l x = trimL l x := by rw [trimR, if_pos ⟨hok, by omega⟩]
    rw [ht]
    unfold trimL
    generalize hD : l.drop (placeK l x l.length).toNat = D at *
    match D, css, hcc, hlen, hdl, h2a, h2c with
    | [], _, _, _, hdl, _, _ => simp at hdl; omega
    | y :: D, cs :: css, hcc, hlen, hdl, h2a, h2c =>
      obtain ⟨hc2, ⟨mv, rfl, hy1, hy2⟩, hcr⟩ := hcc.cons
      obtain ⟨Am, cm, rfl, _⟩ := hy2.openInt
      have h2b' := h2b
      simp only [maxLen] at h2b'
      have hyl : 0 < (y :: D).length := by simp
      repeat' (first | apply v_seq | apply v_region | apply v_nil | (apply v_pure; (case hop => first | (apply p_move <;> rfl) | (apply p_assign <;> rfl) | (apply p_fieldAddrB <;> rfl) | (apply p_indexAddr; (case hx => rfl); (case hi => rfl); (case h0 => omega); (case h => omega)) | fail); (case hd => rfl)) | (apply v_store; (case hp => rfl); (case hx => rfl); (case hc => rfl); (case hsz => rfl); (case h1 => rfl); (case hb => (repeat (exact mhd _))); (case hfit => exact nle rfl); (case hov => ((repeat (first | with_reducible exact ov_nil | apply ov_cons)); done)); (case hu => repeat (exact Upd.here _ _))) | fail)
      refine v_frz [(b, .cells ([Value.int .i64 1, .slice Am y.2.length cm] ++ css.flatten ++ spare).toArray 61 (0, 0))] (r := []) ?_ ?_
      · exact PickA.last
      intro G3 hle3 hG3
      refine v_ret [] (outsA1 rfl rfl) (by repeat (exact List.Sublist.refl _)) ?_
      refine ⟨rfl, ?_⟩
      have hfin := CoCells.mk (G := G3) (y := (1, y.2)) (cs := [Value.int .i64 1, .slice Am y.2.length cm]) rfl ⟨_, rfl, WalkArith.wf_i64 (by simp), hy2.mono hle3⟩ (hcr.le hle3)
      refine hfin.grow ⟨?_, .inr ⟨b, cap, spare, ?_, rfl, ?_, h2b, ?_⟩⟩ (GH.le_refl _) hG3
      · simpa using hlen
      · rfl
      · simpa using h2a
      · simpa using h2c
    | y :: D, [], hcc, _, _, _, _ => have := hcc.1; simp at this
  · rw [if_neg hok] at hck
    (refine v_enter Tryz.func84 rfl Tryz.ntmps84 rfl ?_; intro B _)
    repeat' (first | apply v_seq | apply v_region | apply v_nil | (apply v_pass; (case hg => rfl); (case hn => rfl); (case hd => rfl)) | (apply v_pure; (case hop => first | (apply p_move <;> rfl) | (apply p_ne <;> rfl) | (apply p_assign <;> rfl) | (apply p_pickT <;> rfl) | fail); (case hd => rfl)) | (apply v_condT; (case hc => rfl)) | (apply v_guardB; (case h1 => rfl); (case h2 => rfl); all_goals (intro h; (try simp only [reduceCtorEq, zzz] at h); first | (exfalso; omega) | skip)) | (apply v_callJ (hs := hck); (case ha => rfl); (case hd => rfl)) | fail)
    refine v_ret [] (outsA1 rfl rfl) (by repeat (exact List.Sublist.refl _)) ?_
    rw [trimR, if_neg (by rintro ⟨h, _⟩; exact hok h)]
    exact ⟨rfl, hs0⟩
end Go.Proofs.YtmdeeokejdkceaaGreatDoor
