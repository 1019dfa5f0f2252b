/-
  The law SegmCut.
-/
import Derived.Test.YtpemabgfmnhhnaaGreatDoorM6
import VxDev
import Derived.Test.YtpemabgfmnhhnaaGreatDoorM1
import Derived.Test.YtpemabgfmnhhnaaGreatDoorRows
import Derived.Test.YtpemabgfmnhhnaaGreatDoorChecked
import Derived.JoinedOf
import Derived.SevenTiedAt
import Derived.LaidMore
import Derived.Lay
import Derived.Test.YtpemabgfmnhhnaaGreatDoorTie
import Derived.Test.YtpemabgfmnhhnaaGreatDoorCards
import Derived.Stop.Joined
set_option linter.unusedSimpArgs false
set_option linter.unusedVariables false
namespace Go.Proofs.YtpemabgfmnhhnaaGreatDoor
open Go.Vx Go.ChangeShapes Go.WideShapes Go.ChangeAt Go.RowKit
set_option maxHeartbeats 2000000 in
theorem segmCut_main {W:World} (hT:TabsG (ghost W)) (hC:CrcG (ghost W)) {H:Hd} {L:List Value} (hh:HdV (ghost W) H L) {more:List Rc} {mv:Value} (hm:Rs (ghost W) mv more) (a m:Int):LawCon Tryz.prog 5 #[.agg L.toArray,mv,.agg #[.int .i64 a,.int .i64 m]] W:=by
  have ql:=heavy_s hh
  unfold LawCon
  generalize ghost W = G at *
  have qa:=fun G' (h:GH.le G G')=>awake20_s (hT.le h) (hC.le h)
  have hoka:∀ e ∈ H.acc,e.ok:=fun e he=>by
    obtain ⟨_,_,_,_,_,ha,_⟩:=id hh
    obtain ⟨i,hi,rfl⟩:=List.getElem_of_mem he
    obtain ⟨_,_,_,_,_,_,_,_,_,hok⟩:=esOpen ha
    exact hok i hi
  have hokc:∀ e ∈ H.cho,e.ok:=fun e he=>by
    obtain ⟨_,_,_,_,_,_,hc⟩:=id hh
    obtain ⟨i,hi,rfl⟩:=List.getElem_of_mem he
    obtain ⟨_,_,_,_,_,_,_,_,_,hok⟩:=esOpen hc
    exact hok i hi
  have qg:=rLarge_s hm
  obtain ⟨iv,av,cv,rfl,hi,ha,hcv⟩:=id hh
  obtain ⟨A0,c0,rfl,-⟩:=id hi.openInt
  obtain ⟨A1,c1,rfl,-⟩:=id ha.open
  obtain ⟨A2,c2,rfl,-⟩:=id hcv.open
  obtain ⟨Am,cm,rfl,hml,hmm,-⟩:=id hm.open
  simp only [maxLen] at hmm
  (refine v_enter Tryz.func5 rfl Tryz.ntmps5 rfl ?_;intro B _)
  repeat' (first|(apply v_pure;(case hop=>(apply p_rem;(case hx=>rfl);(case hy=>rfl);(case h0=>decide)));(case hd=>rfl))|apply v_seq|apply v_region|apply v_nil|(apply v_pure;(case hop=>first|(apply p_ne <;> rfl)|(apply p_assign <;> rfl)|(apply p_indexAddrB;(case hx=>rfl);(case hi=>rfl);(case h0=>omega);(case h=>omega))|fail);(case hd=>rfl))|(apply v_read;(case hop=>(apply r_load1;rfl;(apply Cell.own;(case h=>(repeat (exact mhd _)));rfl)));(case hd=>rfl))|(apply v_box;(case hx=>rfl);(case hz=>rfl);(case hd=>rfl);intro b)|fail)
  rename_i hb
  revert b
  intro nb
  refine v_cut (fun σ1 G' μ'=>G' = G ∧ μ' = [(nb,.cells #[.int .i64 a,.int .i64 m] 46 (0,0)),(hb,.cells (hdL H.pr H.pn H.base (.slice A0 H.image.length c0) (.slice A1 H.acc.length c1) (.slice A2 H.cho.length c2)).toArray 27 (0,0))] ∧ ∃ f:Int,(f = 1 ∨ f = 2) ∧ EnvHas σ1 [(7,.int .i64 f),(5,.pointer (some ⟨nb,0,none⟩)),(3,.pointer (some ⟨hb,0,none⟩)),(1,.slice Am more.length cm)]) ?_ ?_
  · intro hcut
    repeat' (first|(refine hcut _ _ _ ⟨rfl,rfl,_,?_,⟨rfl,rfl,rfl,rfl,trivial⟩⟩)|apply v_region|apply v_nil|apply v_skip|(apply v_pure;(case hop=>(apply p_assign <;> rfl));(case hd=>rfl))|(apply v_cond;(case hc=>rfl);all_goals (intro h;(try simp only [reduceCtorEq,zzz] at h)))|fail)
    · exact .inr rfl
    · exact .inl rfl
  rintro σ1 _ _ ⟨rfl,rfl,f,hf,hE⟩
  refine v_has hE ?_
  clear hE
  repeat' (first|apply v_seq|apply v_region|(apply v_read;(case hop=>(apply r_loadNo;(case hx=>rfl);(case h=>(repeat (first|exact mhd _|apply mtl)));(case hd=>(repeat (first|with_reducible exact dt_nil|apply dt_here)));(case hn=>rfl)));(case hd=>rfl))|fail)
  refine v_call (μ1:=[]) rfl ql (List.Perm.refl _) rfl ?_
  rintro _ G1 _ - ⟨hG1,rfl,b,rfl,hbb⟩
  subst hG1
  cases b
  rotate_left
  · repeat' (first|apply v_seq|apply v_region|apply v_nil|(apply v_pass;(case hg=>rfl);(case hn=>rfl);(case hd=>rfl))|(apply v_pure;(case hop=>first|(apply p_move <;> rfl)|(apply p_assign <;> rfl)|(apply p_pickT <;> rfl)|fail);(case hd=>rfl))|(apply v_condT;(case hc=>rfl))|(apply v_callJ (hs:=qa _ (GH.le_refl _));(case ha=>rfl);(case hd=>rfl))|fail)
    all_goals
      (refine v_ret [] (outsA1 rfl rfl) (by repeat (exact List.nil_sublist _)) ?_
       rfl)
  obtain ⟨b1,b2,b3⟩:=hbb rfl
  clear hbb
  repeat' (first|(apply v_take;(case hg=>rfl))|(apply v_pure;(case hop=>(apply p_move <;> rfl));(case hd=>rfl))|fail)
  refine v_call (μ1:=[]) rfl qg (List.Perm.refl _) rfl ?_
  rintro _ G2 _ - ⟨hG2,rfl,b,rfl,hbb⟩
  subst hG2
  cases b
  rotate_left
  · repeat' (first|apply v_seq|apply v_region|apply v_nil|(apply v_pass;(case hg=>rfl);(case hn=>rfl);(case hd=>rfl))|(apply v_pure;(case hop=>first|(apply p_move <;> rfl)|(apply p_assign <;> rfl)|(apply p_pickT <;> rfl)|(apply p_pickF <;> rfl)|fail);(case hd=>rfl))|(apply v_condT;(case hc=>rfl))|(apply v_callJ (hs:=qa _ (GH.le_refl _));(case ha=>rfl);(case hd=>rfl))|fail)
    all_goals
      (refine v_ret [] (outsA1 rfl rfl) (by repeat (exact List.nil_sublist _)) ?_
       rfl)
  obtain ⟨hm40,hmS⟩:=hbb rfl
  clear hbb
  by_cases hck:CheckP H
  rotate_left
  · have qk:=rCheckNo_s hh hck
    repeat' (first|apply v_seq|apply v_region|apply v_nil|(apply v_take;(case hg=>rfl))|(apply v_pass;(case hg=>rfl);(case hn=>rfl);(case hd=>rfl))|(apply v_pure;(case hop=>first|(apply p_move <;> rfl)|(apply p_assign <;> rfl)|(apply p_pickT <;> rfl)|(apply p_pickF <;> rfl)|(apply p_not <;> rfl)|fail);(case hd=>rfl))|(apply v_condT;(case hc=>rfl))|(apply v_callJ (hs:=qk);(case ha=>rfl);(case hd=>rfl))|(apply v_callJ (hs:=qa _ (GH.le_refl _));(case ha=>rfl);(case hd=>rfl))|(apply v_read;(case hop=>(apply r_loadNo;(case hx=>rfl);(case h=>(repeat (first|exact mhd _|apply mtl)));(case hd=>(repeat (first|with_reducible exact dt_nil|apply dt_here)));(case hn=>rfl)));(case hd=>rfl))|fail)
    all_goals
      (refine v_ret [] (outsA1 rfl rfl) (by repeat (exact List.nil_sublist _)) ?_
       rfl)
  have hg:=good_check (n:=40) hck b2 b3 hoka hokc
  have hrl:=recs_len (H:=H)
  have qk:=hCheck_s hh hg
  have e3:hasF f (recsOf H) = errsF f (recsOf H):=by unfold hasF;rw [if_pos hf]
  have e4:hasF f more = errsF f more:=by unfold hasF;rw [if_pos hf]
  repeat' (first|(apply v_take;(case hg=>rfl))|(apply v_pure;(case hop=>first|(apply p_move <;> rfl)|(apply p_pickF <;> rfl)|(apply p_not <;> rfl)|fail);(case hd=>rfl))|(apply v_callJ (hs:=qk);(case ha=>rfl);(case hd=>rfl))|(apply v_read;(case hop=>(apply r_loadNo;(case hx=>rfl);(case h=>(repeat (first|exact mhd _|apply mtl)));(case hd=>(repeat (first|with_reducible exact dt_nil|apply dt_here)));(case hn=>rfl)));(case hd=>rfl))|fail)
  refine v_call (μ1:=[]) rfl (records20_s hh hg (Nat.le_refl _)) (List.Perm.refl _) rfl ?_
  rintro v3 G3 ν3 hle3 hg3
  refine v_frzP ν3 (List.Perm.refl _) ?_
  intro G4 hle4 hG4
  have hrs:=hg3.rs hle4 hG4
  have hle24:=GH.le_trans hle3 hle4
  have q4:=has20_s f hrs
  rw [e3] at q4
  have qa4:=qa _ hle24
  by_cases h0:errsF f (recsOf H) = 0
  rotate_left
  · generalize errsF f (recsOf H) = e at *
    repeat' (first|apply v_seq|apply v_region|apply v_nil|(apply v_take;(case hg=>rfl))|(apply v_pass;(case hg=>rfl);(case hn=>rfl);(case hd=>rfl))|(apply v_pure;(case hop=>first|(apply p_move <;> rfl)|(apply p_ne <;> rfl)|(apply p_assign <;> rfl)|(apply p_pickT <;> rfl)|(apply p_pickF <;> rfl)|fail);(case hd=>rfl))|(apply v_condT;(case hc=>rfl))|(apply v_guardB;(case h1=>rfl);(case h2=>rfl);all_goals (intro h;(try simp only [reduceCtorEq,zzz] at h);first|(exfalso;omega)|skip))|(apply v_callJ (hs:=q4);(case ha=>rfl);(case hd=>rfl))|(apply v_callJ (hs:=qa4);(case ha=>rfl);(case hd=>rfl))|fail)
    all_goals first
      | (exfalso;omega)
      | (refine v_ret [] (outsA1 rfl rfl) (by repeat (exact List.nil_sublist _)) ?_
         rfl)
      | skip
    all_goals vx_show
  rw [h0] at q4
  have q5:=has20_s f (Rs.le' hle24 hm)
  rw [e4] at q5
  by_cases h1:errsF f more = 0
  rotate_left
  · generalize errsF f more = e at *
    repeat' (first|apply v_seq|apply v_region|apply v_nil|(apply v_take;(case hg=>rfl))|(apply v_pure;(case hop=>first|(apply p_move <;> rfl)|(apply p_nes <;> rfl)|(apply p_ne <;> rfl)|(apply p_assign <;> rfl)|(apply p_pickF <;> rfl)|fail);(case hd=>rfl))|(apply v_cond;(case hc=>rfl);all_goals (intro h;(try simp only [reduceCtorEq,zzz] at h);first|(exfalso;omega)|skip))|(apply v_callJ (hs:=q4);(case ha=>rfl);(case hd=>rfl))|(apply v_callJ (hs:=q5);(case ha=>rfl);(case hd=>rfl))|(apply v_callJ (hs:=qa4);(case ha=>rfl);(case hd=>rfl))|fail)
    all_goals first
      | (exfalso;omega)
      | (refine v_ret [] (outsA1 rfl rfl) (by repeat (exact List.nil_sublist _)) ?_
         rfl)
      | skip
    all_goals vx_show
  rw [h1] at q5
  repeat' (first|apply v_seq|apply v_nil|apply v_skip|(apply v_take;(case hg=>rfl))|(apply v_pure;(case hop=>first|(apply p_move <;> rfl)|(apply p_nes <;> rfl)|(apply p_pickF <;> rfl)|fail);(case hd=>rfl))|(apply v_condF;(case hc=>rfl))|(apply v_callJ (hs:=q4);(case ha=>rfl);(case hd=>rfl))|(apply v_callJ (hs:=q5);(case ha=>rfl);(case hd=>rfl))|fail)
  have hall:∀ x ∈ recsOf H ++ more,OkF f x:=fun x hx=>by
    rcases List.mem_append.1 hx with hx|hx
    · exact recs_okF hck b1 h0 x hx
    · exact ⟨errsF_at h1 x hx,(hmS x hx).2⟩
  have hokC:∀ x ∈ recsOf H ++ more,okC (encF f) (decF f) x:=fun x hx=>by
    have he:=(hall x hx).err
    rcases List.mem_append.1 hx with hx|hx
    · have hw:=rs_wf hrs x hx
      exact encF_okC he (recs_light hck b1 x hx).1 hw.1 hw.2.2
    · have hw:=rs_wf hm x hx
      exact encF_okC he (hmS x hx).1 hw.1 hw.2.2
  have hh4:=hh.le hle24
  have hm4:=Rs.le' hle24 hm
  have qF:=file_s hh4 hg (Nat.le_refl _) hf hm4 hm40 hall (by omega)
  have qE:=fun G' (h:GH.le G4 G')=>ends_s (hh4.le h) hg (Nat.le_refl _) hf (Rs.le' h hm4) hm40 hall (by omega)
  have qB:=fun G' (h:GH.le G4 G') (k:Nat) (hk:k ≤ more.length)=>behind_s (hh4.le h) hg (Nat.le_refl _) ((Rs.le' h hm4).take hk) (by rw [List.length_take];omega)
  have qR:=fun G' (h:GH.le G4 G')=>records20_s (hh4.le h) hg (Nat.le_refl _)
  have hcut:=fun (m:Nat) (h:m ≤ (fileB encF f (recsOf H).length (recsOf H ++ more)).length)=>readF_cut encF decF (n:=(recsOf H).length) (m:=m) hf (by rw [List.length_append];omega) hokC (by rw [List.length_append];omega) h
  refine d_start _ (by kernel_rfl) (by kernel_rfl) (by kernel_rfl) (fun _ he=>he) ?_
  all_goals (apply dtk 0;(case hi=>rfl);(case hop=>(apply prd;apply p_move <;> rfl));(case hq=>kernel_rfl))
  all_goals (apply dtk 1;(case hi=>rfl);(case hop=>first|(apply r_loadNo;(case hx=>rfl);(case h=>(repeat (first|exact mhd _|apply mtl)));(case hd=>(repeat (first|with_reducible exact dt_nil|apply dt_here)));(case hn=>rfl))|(apply r_load1;rfl;(apply Cell.own;(case h=>(repeat (fail)));rfl))|(apply r_loadN;rfl;(apply CellsAt.own;(case h=>(repeat (fail))));rfl));(case hq=>kernel_rfl))
  all_goals (apply dtk 2;(case hi=>rfl);(case hop=>(apply prd;apply p_move <;> rfl));(case hq=>kernel_rfl))
  all_goals (apply dtk 4;(case hi=>rfl);(case hop=>(apply prd;apply p_move <;> rfl));(case hq=>kernel_rfl))
  all_goals (apply dtk 5;(case hi=>rfl);(case hop=>first|(apply r_loadNo;(case hx=>rfl);(case h=>(repeat (first|exact mhd _|apply mtl)));(case hd=>(repeat (first|with_reducible exact dt_nil|apply dt_here)));(case hn=>rfl))|(apply r_load1;rfl;(apply Cell.own;(case h=>(repeat (fail)));rfl))|(apply r_loadN;rfl;(apply CellsAt.own;(case h=>(repeat (fail))));rfl));(case hq=>kernel_rfl))
  all_goals (apply dtk 6;(case hi=>rfl);(case hop=>(apply prd;apply p_move <;> rfl));(case hq=>kernel_rfl))
  all_goals ((apply d_call 3 (hs:=qF) (μ1:=[]);(case hi=>rfl);(case hr=>kernel_rfl);  (case ha=>rfl);(case hp=>exact List.Perm.refl _);(case hd=>rfl);(case hν'=>intro e he;simp at he;simp [he]);rintro v5 G5 ν5 hle5 ⟨hb5,hg5⟩))
  all_goals ((apply d_call 7 (hs:=qE _ hle5) (μ1:=[]);(case hi=>rfl);(case hr=>kernel_rfl);  (case ha=>rfl);(case hp=>exact List.Perm.refl _);(case hd=>rfl);(case hν'=>intro e he;simp at he;simp [he]);rintro v6 G6 ν6 hle6 hg6))
  all_goals (apply dtk 8;(case hi=>rfl);(case hop=>(apply prd;apply p_assign <;> rfl));(case hq=>kernel_rfl))
  all_goals (apply dtk 9;(case hi=>rfl);(case hop=>(apply prd;apply p_assign <;> rfl));(case hq=>kernel_rfl))
  all_goals (apply d_done;(case hr=>kernel_rfl))
  have hFsz:=fileB_size (n:=(recsOf H).length) hall
  have hxl:(recsOf H ++ more).length = (recsOf H).length + more.length:=List.length_append
  have hmono:=fun {i j:Nat} (h:i ≤ j)=>endN_mono (f:=f) (n:=(recsOf H).length) (xs:=recsOf H ++ more) h
  have hEtop:endN encF f (recsOf H).length (recsOf H ++ more) ((recsOf H).length + more.length) = (fileB encF f (recsOf H).length (recsOf H ++ more)).length:=by
    rw [endN_file,List.take_of_length_le (by omega)]
  have hEl:=endsL_len (f:=f) (n:=(recsOf H).length) (xs:=recsOf H ++ more) (m:=(recsOf H).length + more.length + 1)
  have hEg:=fun (k:Nat) h=>endsL_get (f:=f) (n:=(recsOf H).length) (xs:=recsOf H ++ more) (m:=(recsOf H).length + more.length + 1) (k:=k) h
  have hEw:∀ x ∈ endsL f (recsOf H).length (recsOf H ++ more) ((recsOf H).length + more.length + 1),(Lit.int .i64 x).wf = true:=fun x hx=>by
    obtain ⟨k,hk,rfl⟩:=List.getElem_of_mem hx
    rw [hEg k hk]
    have:=hmono (i:=k) (j:=(recsOf H).length + more.length) (by omega)
    simp [Lit.wf,IntKind.min,IntKind.max,IntKind.signed,IntKind.bits]
    omega
  refine v_frzP ν6 (List.Perm.refl _) ?_
  intro G7 hle7 hG7
  have s6:Sl G7 1 (IntR .i64) v6 (endsL f (recsOf H).length (recsOf H ++ more) ((recsOf H).length + more.length + 1)):=by
    refine Grow.ints (e:=3) (ν:=ν6) ?_ hG7 hEw
    rw [hEl]
    exact hg6
  refine v_frzP ν5 (List.Perm.refl _) ?_
  intro G8 hle8 hG8
  have s5:=hg5.ints hG8 (byteL.wf hb5)
  have s6:=s6.mono hle8
  have hle48:GH.le G4 G8:=GH.le_trans hle5 (GH.le_trans hle6 (GH.le_trans hle7 hle8))
  have hle28:=GH.le_trans hle24 hle48
  have qa8:=qa _ hle28
  clear hg5 hg6 hG7 hG8 qF qE q4 q5 qk qg ql hEw hrs hg3 hG4
  generalize fileB encF f (recsOf H).length (recsOf H ++ more) = F at *
  obtain ⟨A5,c5,rfl,hl5,hm5,-⟩:=id s5.openInt
  obtain ⟨A6,c6,rfl,hl6,hm6,hs6,he6,-⟩:=id s6.openInt
  simp only [maxLen] at hm5 hm6
  by_cases hmr:0 ≤ m ∧ m ≤ (F.length:Nat)
  rotate_left
  · repeat' (first|apply v_seq|apply v_region|apply v_nil|(apply v_take;(case hg=>rfl))|(apply v_pass;(case hg=>rfl);(case hn=>rfl);(case hd=>rfl))|(apply v_pure;(case hop=>first|(apply p_move <;> rfl)|(apply p_lt <;> rfl)|(apply p_gt <;> rfl)|(apply p_assign <;> rfl)|(apply p_pickT <;> rfl)|(apply p_pickF <;> rfl)|(apply p_lenSlice <;> rfl)|(apply p_indexAddrB;(case hx=>rfl);(case hi=>rfl);(case h0=>omega);(case h=>omega))|fail);(case hd=>rfl))|(apply v_condT;(case hc=>rfl))|(apply v_cond;(case hc=>rfl);all_goals (intro h;(try simp only [reduceCtorEq,zzz] at h);first|(exfalso;omega)|skip))|(apply v_guardB;(case h1=>rfl);(case h2=>rfl);all_goals (intro h;(try simp only [reduceCtorEq,zzz] at h)))|(apply v_callJ (hs:=qa8);(case ha=>rfl);(case hd=>rfl))|(apply v_read;(case hop=>(apply r_load1;rfl;(apply Cell.own;(case h=>(repeat (exact mhd _)));rfl)));(case hd=>rfl))|fail)
    all_goals first
      | (exfalso;omega)
      | (refine v_ret [] (outsA1 rfl rfl) (by repeat (exact List.nil_sublist _)) ?_
         rfl)
      | skip
    all_goals vx_show
  obtain ⟨mn,rfl⟩:∃ mn:Nat,m = mn:=⟨m.toNat,by omega⟩
  obtain ⟨hc1,hc2⟩:=hcut mn (by omega)
  have hst:=s5.take (k:=mn) (by omega)
  have hfew:∀ f' xs' k',readF decF (F.take mn) = some (f',xs',k') → xs'.length ≤ 200:=fun f' xs' k' h=>by
    by_cases hlt:mn < endN encF f (recsOf H).length (recsOf H ++ more) (recsOf H).length
    · rw [hc1 hlt] at h;cases h
    · obtain ⟨K,-,-,-,-,h2⟩:=hc2 hlt
      rw [h2] at h
      cases h
      rw [List.length_take]
      omega
  have qS:=sread_s (hT.le hle28) (hC.le hle28) hst (by rw [List.length_take];omega) hfew
  have hn0:(recsOf H).length < (endsL f (recsOf H).length (recsOf H ++ more) ((recsOf H).length + more.length + 1)).length:=by omega
  have hA6:=hs6 (by omega)
  have kc0:=he6 _ hn0
  rw [hEg _ hn0] at kc0
  have qr8:=qR _ hle48
  repeat' (first|apply v_seq|apply v_region|apply v_nil|apply v_skip|(apply v_take;(case hg=>rfl))|(apply v_pure;(case hop=>first|(apply p_move <;> rfl)|(apply p_lt <;> rfl)|(apply p_gt <;> rfl)|(apply p_pickF <;> rfl)|(apply p_lenSlice <;> rfl)|(apply p_indexAddrB;(case hx=>rfl);(case hi=>rfl);(case h0=>omega);(case h=>omega))|(apply p_sliceH;(case hx=>rfl);(case hh=>rfl);all_goals omega)|fail);(case hd=>rfl))|(apply v_cond;(case hc=>rfl);all_goals (intro h;(try simp only [reduceCtorEq,zzz] at h);first|(exfalso;omega)|skip))|(apply v_guardB;(case h1=>rfl);(case h2=>rfl);all_goals (intro h;(try simp only [reduceCtorEq,zzz] at h);first|(exfalso;omega)|skip))|(apply v_read;(case hop=>(apply r_load1;rfl;(apply Cell.own;(case h=>(repeat (exact mhd _)));rfl)));(case hd=>rfl))|fail)
  refine v_call (μ1:=[]) rfl qS (List.Perm.refl _) rfl ?_
  rintro _ G9 _ hle9 ⟨rfl,hR⟩
  have hle49:=GH.le_trans hle48 hle9
  have kc0:=GH.cell_le hle9 kc0
  have he9:=fun i h=>GH.cell_le hle9 (he6 i h)
  clear he6 hs6
  by_cases hlt:mn < endN encF f (recsOf H).length (recsOf H ++ more) (recsOf H).length
  · obtain ⟨-,rfl⟩|⟨f',xs',k',L',hR,-⟩:=hR
    rotate_left
    · rw [hc1 hlt] at hR;cases hR
    repeat' (first|apply v_seq|apply v_region|apply v_nil|(apply v_pure;(case hop=>first|(apply p_move <;> rfl)|(apply p_assign <;> rfl)|(apply p_extract0 <;> rfl)|(apply p_extract1 <;> rfl)|fail);(case hd=>rfl))|(apply v_read;(case hop=>(apply r_loadNo;(case hx=>rfl);(case h=>(repeat (first|exact mhd _|apply mtl)));(case hd=>(repeat (first|with_reducible exact dt_nil|apply dt_here)));(case hn=>rfl)));(case hd=>rfl))|(apply v_alloc;(case hz=>rfl);(case hd=>rfl);intro b)|(apply v_store;(case hp=>rfl);(case hx=>rfl);(case hc=>rfl);(case hsz=>rfl);(case h1=>rfl);(case hb=>(repeat (exact mhd _)));(case hfit=>exact nle rfl);(case hov=>((repeat (first|with_reducible exact ov_nil|apply ov_cons));done));(case hu=>repeat (exact Upd.here _ _)))|fail)
    refine v_call (μ1:=[]) rfl (qR _ hle49) (List.Perm.refl _) rfl ?_
    rintro v10 G10 ν10 hle10 ⟨css,-,-,hgr⟩
    obtain ⟨Ag,cg,rfl,-,-⟩:=hgr.shape
    refine v_drop (List.sublist_append_right _ _) ?_
    have kc:=GH.cell_le hle10 kc0
    have qa10:=qa _ (GH.le_trans hle24 (GH.le_trans hle49 hle10))
    repeat' (first|apply v_seq|apply v_nil|(apply v_pure;(case hop=>first|(apply p_assign <;> rfl)|(apply p_lenSlice <;> rfl)|fail);(case hd=>rfl))|fail)
    refine d_start _ (by kernel_rfl) (by kernel_rfl) (by kernel_rfl) (fun _ he=>he) ?_
    all_goals (apply dtk 0;(case hi=>rfl);(case hop=>(apply prd;apply p_indexAddrB;(case hx=>rfl);(case hi=>rfl);(case h0=>omega);(case h=>omega)));(case hq=>kernel_rfl))
    all_goals (apply dtk 1;(case hi=>rfl);(case hop=>(apply r_load1;rfl;(apply Cell.own;(case h=>(repeat (first|exact mhd _|apply mtl)));rfl)));(case hq=>kernel_rfl))
    all_goals (apply dtk 2;(case hi=>rfl);(case hop=>(apply prd;apply p_move <;> rfl));(case hq=>kernel_rfl))
    all_goals (apply dtk 3;(case hi=>rfl);(case hop=>(apply prd;apply p_move <;> rfl));(case hq=>kernel_rfl))
    all_goals (apply dtk 4;(case hi=>rfl);(case hop=>(apply prd;apply p_indexAddrS;(case hx=>rfl);(case hi=>rfl);(case h0=>omega);(case h=>omega);(case hA=>assumption)));(case hq=>kernel_rfl))
    all_goals (apply dtk 5;(case hi=>rfl);(case hop=>((apply r_load1;rfl;exact Cell.frozen kc)));(case hq=>kernel_rfl))
    all_goals (apply dtk 6;(case hi=>rfl);(case hop=>(apply prd;apply p_lt <;> rfl));(case hq=>kernel_rfl))
    all_goals (apply d_done;(case hr=>kernel_rfl))
    repeat' (first|apply v_seq|apply v_region|apply v_nil|(apply v_take;(case hg=>rfl))|(apply v_pure;(case hop=>first|(apply p_move <;> rfl)|(apply p_eqs <;> rfl)|(apply p_assign <;> rfl)|(apply p_pickT <;> rfl)|(apply p_fieldAddrB <;> rfl)|fail);(case hd=>rfl))|(apply v_cond;(case hc=>rfl);all_goals (intro h;(try simp only [reduceCtorEq,zzz] at h);first|(exfalso;omega)|skip))|(apply v_callJ (hs:=qa10);(case ha=>rfl);(case hd=>rfl))|(apply v_read;(case hop=>(apply r_load1;rfl;(apply Cell.own;(case h=>(repeat (exact mhd _)));rfl)));(case hd=>rfl))|fail)
    all_goals
      (refine v_ret [] (outsA1 rfl rfl) (by repeat (exact List.nil_sublist _)) ?_
       rfl)
  · obtain ⟨hn,-⟩|⟨f',xs',k',L',hR,rfl,hL⟩:=hR
    · obtain ⟨K,-,-,-,-,h2⟩:=hc2 hlt
      rw [h2] at hn;cases hn
    obtain ⟨K,hK1,hK2,hK3,hK4,h2⟩:=hc2 hlt
    rw [h2] at hR
    cases hR
    have hKl:(List.take K (recsOf H ++ more)).length = K:=by rw [List.length_take];omega
    have htk:List.take K (recsOf H ++ more) = recsOf H ++ more.take (K - (recsOf H).length):=by
      rw [List.take_append,List.take_of_length_le (by omega)]
    rw [hKl]
    have hL1:=hL
    obtain ⟨iv',av',cv',rfl,hi',hac',hch'⟩:=hL
    obtain ⟨B3,d3,rfl,-⟩:=id hi'.openInt
    obtain ⟨B4,d4,rfl,-⟩:=id hac'.open
    obtain ⟨B5,d5,rfl,-⟩:=id hch'.open
    have hKe:((K:Nat):Int) ≤ 1000:=by omega
    repeat' (first|apply v_seq|apply v_region|apply v_nil|(apply v_pure;(case hop=>first|(apply p_move <;> rfl)|(apply p_assign <;> rfl)|(apply p_extract0 <;> rfl)|(apply p_extract1 <;> rfl)|fail);(case hd=>rfl))|(apply v_read;(case hop=>(apply r_loadNo;(case hx=>rfl);(case h=>(repeat (first|exact mhd _|apply mtl)));(case hd=>(repeat (first|with_reducible exact dt_nil|apply dt_here)));(case hn=>rfl)));(case hd=>rfl))|(apply v_alloc;(case hz=>rfl);(case hd=>rfl);intro b)|(apply v_store;(case hp=>rfl);(case hx=>rfl);(case hc=>rfl);(case hsz=>rfl);(case h1=>rfl);(case hb=>(repeat (exact mhd _)));(case hfit=>exact nle rfl);(case hov=>((repeat (first|with_reducible exact ov_nil|apply ov_cons));done));(case hu=>repeat (exact Upd.here _ _)))|fail)
    refine v_call (μ1:=[]) rfl (qR _ hle49) (List.Perm.refl _) rfl ?_
    rintro v10 G10 ν10 hle10 ⟨css,-,-,hgr⟩
    obtain ⟨Ag,cg,rfl,-,-⟩:=hgr.shape
    refine v_drop (List.sublist_append_right _ _) ?_
    have kc:=GH.cell_le hle10 kc0
    have he10:=fun i h=>GH.cell_le hle10 (he9 i h)
    repeat' (first|apply v_seq|apply v_nil|(apply v_pure;(case hop=>first|(apply p_assign <;> rfl)|(apply p_lenSlice <;> rfl)|fail);(case hd=>rfl))|fail)
    refine d_start _ (by kernel_rfl) (by kernel_rfl) (by kernel_rfl) (fun _ he=>he) ?_
    all_goals (apply dtk 0;(case hi=>rfl);(case hop=>(apply prd;apply p_indexAddrB;(case hx=>rfl);(case hi=>rfl);(case h0=>omega);(case h=>omega)));(case hq=>kernel_rfl))
    all_goals (apply dtk 1;(case hi=>rfl);(case hop=>(apply r_load1;rfl;(apply Cell.own;(case h=>(repeat (first|exact mhd _|apply mtl)));rfl)));(case hq=>kernel_rfl))
    all_goals (apply dtk 2;(case hi=>rfl);(case hop=>(apply prd;apply p_move <;> rfl));(case hq=>kernel_rfl))
    all_goals (apply dtk 3;(case hi=>rfl);(case hop=>(apply prd;apply p_move <;> rfl));(case hq=>kernel_rfl))
    all_goals (apply dtk 4;(case hi=>rfl);(case hop=>(apply prd;apply p_indexAddrS;(case hx=>rfl);(case hi=>rfl);(case h0=>omega);(case h=>omega);(case hA=>assumption)));(case hq=>kernel_rfl))
    all_goals (apply dtk 5;(case hi=>rfl);(case hop=>((apply r_load1;rfl;exact Cell.frozen kc)));(case hq=>kernel_rfl))
    all_goals (apply dtk 6;(case hi=>rfl);(case hop=>(apply prd;apply p_lt <;> rfl));(case hq=>kernel_rfl))
    all_goals (apply d_done;(case hr=>kernel_rfl))
    repeat' (first|apply v_seq|apply v_region|apply v_nil|apply v_skip|apply v_block|(apply v_pure;(case hop=>first|(apply p_move <;> rfl)|(apply p_assign <;> rfl)|fail);(case hd=>rfl))|(apply v_cond;(case hc=>rfl);all_goals (intro h;(try simp only [reduceCtorEq,zzz] at h);first|(exfalso;omega)|skip))|fail)
    have hle210:=GH.le_trans hle24 (GH.le_trans hle49 hle10)
    have hbi:(((K:Nat):Int) - ((recsOf H).length:Nat)).toNat = K - (recsOf H).length:=by omega
    have qBK:=qB _ (GH.le_trans hle49 hle10) (((K:Nat):Int) - ((recsOf H).length:Nat)).toNat (by omega)
    rw [show recsOf H ++ more.take (((K:Nat):Int) - ((recsOf H).length:Nat)).toNat = List.take K (recsOf H ++ more) by rw [hbi,htk]] at qBK
    have hHK:HdV G10 (hardOf (List.take K (recsOf H ++ more))) (hdL (hardOf (List.take K (recsOf H ++ more))).pr (hardOf (List.take K (recsOf H ++ more))).pn (hardOf (List.take K (recsOf H ++ more))).base (.slice B3 (hardOf (List.take K (recsOf H ++ more))).image.length d3) (.slice B4 (hardOf (List.take K (recsOf H ++ more))).acc.length d4) (.slice B5 (hardOf (List.take K (recsOf H ++ more))).cho.length d5)):=hL1.le hle10
    have hkm:∀ k,k < K → endN encF f (recsOf H).length (recsOf H ++ more) (k + 1) ≤ mn:=fun k hk=>Nat.le_trans (hmono (i:=k + 1) (j:=K) (by omega)) hK3
    have hkx:K + 1 < (endsL f (recsOf H).length (recsOf H ++ more) ((recsOf H).length + more.length + 1)).length → mn < endN encF f (recsOf H).length (recsOf H ++ more) (K + 1):=fun h=>Nat.lt_of_not_le fun h'=>by
      have:=hK4 (K + 1) (by omega) h'
      omega
    have heK:∀ k (h:k < (endsL f (recsOf H).length (recsOf H ++ more) ((recsOf H).length + more.length + 1)).length),G10.cell? ((adr A6).add (k * 1)) = some (Value.int .i64 ((endN encF f (recsOf H).length (recsOf H ++ more) k:Nat):Int)):=fun k h=>by
      have:=he10 k h
      rw [hEg k h] at this
      exact this
    have hn1000:(endsL f (recsOf H).length (recsOf H ++ more) ((recsOf H).length + more.length + 1)).length ≤ 1000:=by omega
    try clear hcut;try clear qS;try clear hfew;try clear hc1;try clear hc2;try clear hn0;try clear kc;try clear kc0;try clear he9;try clear he10;try clear hEg;try clear hK4;try clear hmono;try clear h2;try clear hall;try clear hokC;try clear qE;try clear qB;try clear qR;try clear hL1;try clear hi';try clear hac';try clear hch';try clear hst;try clear s5;try clear s6
    generalize hHe:hardOf (List.take K (recsOf H ++ more)) = HK at *
    generalize endsL f (recsOf H).length (recsOf H ++ more) ((recsOf H).length + more.length + 1) = E at *
    generalize hEf:endN encF f (recsOf H).length (recsOf H ++ more) = ef at *
    generalize hn0e:(recsOf H).length = n0 at *
    refine v_loop [13,12,11,10,9,7,5,3,1] (fun us G' μ'=>G' = G10 ∧ ∃ k:Nat,n0 ≤ k ∧ k ≤ K ∧ us = [Value.int .i64 (k:Nat),.int .i64 (n0:Nat),.int .i64 0,.pointer (some ⟨b,0,none⟩),.slice A6 E.length c6,.int .i64 f,.pointer (some ⟨nb,0,none⟩),.pointer (some ⟨hb,0,none⟩),.slice Am more.length cm] ∧ μ' = [(b,.cells #[.int .i64 f,.int .i64 HK.pr,.int .i64 HK.pn,.int .i64 HK.base,.slice B3 HK.image.length d3,.slice B4 HK.acc.length d4,.slice B5 HK.cho.length d5,.int .i64 (K:Nat),.int .i64 (ef K:Nat)] 50 (0,0)),(nb,.cells #[.int .i64 a,.int .i64 (mn:Nat)] 46 (0,0)),(hb,.cells (hdL H.pr H.pn H.base (.slice A0 H.image.length c0) (.slice A1 H.acc.length c1) (.slice A2 H.cho.length c2)).toArray 27 (0,0))]) (fun us=>K - (headI us).toNat) rfl ⟨rfl,n0,Nat.le_refl _,hK1,rfl,rfl⟩ ?_
    rintro us G' _ ⟨rfl,k,hk1,hk2,rfl,rfl⟩
    have e1:((k:Nat):Int).toNat = k:=by omega
    have e2:(((k:Nat):Int) + 1).toNat = k + 1:=by omega
    by_cases hkl:k < K
    · have hk3:=hkm k hkl
      have kc1:G'.cell? ((adr A6).add ((((k:Nat):Int) + 1).toNat * 1)) = some (.int .i64 ((ef (k + 1):Nat):Int)):=by rw [e2];exact heK (k + 1) (by omega)
      repeat' (first|apply v_seq)
      refine d_start _ (by kernel_rfl) (by kernel_rfl) (by kernel_rfl) (fun _ he=>he) ?_
      all_goals (apply dtk 0;(case hi=>rfl);(case hop=>(apply prd;apply p_move <;> rfl));(case hq=>kernel_rfl))
      all_goals (apply dtk 1;(case hi=>rfl);(case hop=>(apply prd;apply p_add;(case hx=>rfl);(case hy=>rfl);(case h=>omega)));(case hq=>kernel_rfl))
      all_goals (apply dtk 2;(case hi=>rfl);(case hop=>(apply prd;apply p_move <;> rfl));(case hq=>kernel_rfl))
      all_goals (apply dtk 3;(case hi=>rfl);(case hop=>(apply prd;apply p_lenSlice <;> rfl));(case hq=>kernel_rfl))
      all_goals (apply dtk 4;(case hi=>rfl);(case hop=>(apply prd;apply p_lt <;> rfl));(case hq=>kernel_rfl))
      all_goals (apply dtk 5;(case hi=>rfl);(case hop=>(apply prd;apply p_move <;> rfl));(case hq=>kernel_rfl))
      all_goals (try (apply d_guardB 6;(case hi=>rfl);(case hgd=>rfl);(case h1=>rfl);(case h2=>rfl);all_goals (intro h;(try simp only [reduceCtorEq,zzz] at h);first|(exfalso;omega)|skip)))
      all_goals (apply dtg 6;(case hi=>rfl);(case hg=>rfl);(case hop=>(apply prd;apply p_move <;> rfl));(case hq=>kernel_rfl))
      all_goals (try (apply d_guardB 7;(case hi=>rfl);(case hgd=>rfl);(case h1=>rfl);(case h2=>rfl);all_goals (intro h;(try simp only [reduceCtorEq,zzz] at h))))
      all_goals (apply dtg 7;(case hi=>rfl);(case hg=>rfl);(case hop=>(apply prd;apply p_move <;> rfl));(case hq=>kernel_rfl))
      all_goals (try (apply d_guardB 8;(case hi=>rfl);(case hgd=>rfl);(case h1=>rfl);(case h2=>rfl);all_goals (intro h;(try simp only [reduceCtorEq,zzz] at h))))
      all_goals (apply dtg 8;(case hi=>rfl);(case hg=>rfl);(case hop=>(apply prd;apply p_add;(case hx=>rfl);(case hy=>rfl);(case h=>omega)));(case hq=>kernel_rfl))
      all_goals (try (apply d_guardB 9;(case hi=>rfl);(case hgd=>rfl);(case h1=>rfl);(case h2=>rfl);all_goals (intro h;(try simp only [reduceCtorEq,zzz] at h))))
      all_goals (apply dtg 9;(case hi=>rfl);(case hg=>rfl);(case hop=>(apply prd;apply p_indexAddrS;(case hx=>rfl);(case hi=>rfl);(case h0=>omega);(case h=>omega);(case hA=>assumption)));(case hq=>kernel_rfl))
      all_goals (try (apply d_guardB 10;(case hi=>rfl);(case hgd=>rfl);(case h1=>rfl);(case h2=>rfl);all_goals (intro h;(try simp only [reduceCtorEq,zzz] at h))))
      all_goals (apply dtg 10;(case hi=>rfl);(case hg=>rfl);(case hop=>((apply r_load1;rfl;exact Cell.frozen kc1)));(case hq=>kernel_rfl))
      all_goals (try (apply d_guardB 11;(case hi=>rfl);(case hgd=>rfl);(case h1=>rfl);(case h2=>rfl);all_goals (intro h;(try simp only [reduceCtorEq,zzz] at h))))
      all_goals (apply dtg 11;(case hi=>rfl);(case hg=>rfl);(case hop=>(apply prd;apply p_indexAddrB;(case hx=>rfl);(case hi=>rfl);(case h0=>omega);(case h=>omega)));(case hq=>kernel_rfl))
      all_goals (try (apply d_guardB 12;(case hi=>rfl);(case hgd=>rfl);(case h1=>rfl);(case h2=>rfl);all_goals (intro h;(try simp only [reduceCtorEq,zzz] at h))))
      all_goals (apply dtg 12;(case hi=>rfl);(case hg=>rfl);(case hop=>(apply r_load1;rfl;(apply Cell.own;(case h=>(repeat (first|exact mhd _|apply mtl)));rfl)));(case hq=>kernel_rfl))
      all_goals (try (apply d_guardB 13;(case hi=>rfl);(case hgd=>rfl);(case h1=>rfl);(case h2=>rfl);all_goals (intro h;(try simp only [reduceCtorEq,zzz] at h))))
      all_goals (apply dtg 13;(case hi=>rfl);(case hg=>rfl);(case hop=>(apply prd;apply p_le <;> rfl));(case hq=>kernel_rfl))
      all_goals (apply dtk 14;(case hi=>rfl);(case hop=>(apply prd;apply p_pickT <;> rfl));(case hq=>kernel_rfl))
      all_goals (apply d_done;(case hr=>kernel_rfl))
      repeat' (first|apply v_region|apply v_nil|apply v_skip|apply v_block|apply v_blk|(apply v_pure;(case hop=>first|(apply p_move <;> rfl)|(apply p_assign <;> rfl)|(apply p_add;(case hx=>rfl);(case hy=>rfl);(case h=>omega))|fail);(case hd=>rfl))|(apply v_cond;(case hc=>rfl);all_goals (intro h;(try simp only [reduceCtorEq,zzz] at h);first|(exfalso;omega)|skip))|fail)
      exact v_again rfl ⟨rfl,k + 1,by omega,by omega,rfl,rfl⟩ (by simp [headI];omega)
    · obtain rfl:k = K:=by omega
      have kcK:=heK k (by omega)
      have qaK:=qa _ hle210
      have hE1:E.length ≤ 1000:=hn1000
      by_cases hkE:k + 1 < E.length
      · have kc1:G'.cell? ((adr A6).add ((((k:Nat):Int) + 1).toNat * 1)) = some (.int .i64 ((ef (k + 1):Nat):Int)):=by rw [e2];exact heK (k + 1) hkE
        have hkx1:=hkx hkE
        repeat' (first|apply v_seq)
        refine d_start _ (by kernel_rfl) (by kernel_rfl) (by kernel_rfl) (fun _ he=>he) ?_
        all_goals (apply dtk 0;(case hi=>rfl);(case hop=>(apply prd;apply p_move <;> rfl));(case hq=>kernel_rfl))
        all_goals (apply dtk 1;(case hi=>rfl);(case hop=>(apply prd;apply p_add;(case hx=>rfl);(case hy=>rfl);(case h=>omega)));(case hq=>kernel_rfl))
        all_goals (apply dtk 2;(case hi=>rfl);(case hop=>(apply prd;apply p_move <;> rfl));(case hq=>kernel_rfl))
        all_goals (apply dtk 3;(case hi=>rfl);(case hop=>(apply prd;apply p_lenSlice <;> rfl));(case hq=>kernel_rfl))
        all_goals (apply dtk 4;(case hi=>rfl);(case hop=>(apply prd;apply p_lt <;> rfl));(case hq=>kernel_rfl))
        all_goals (apply dtk 5;(case hi=>rfl);(case hop=>(apply prd;apply p_move <;> rfl));(case hq=>kernel_rfl))
        all_goals (try (apply d_guardB 6;(case hi=>rfl);(case hgd=>rfl);(case h1=>rfl);(case h2=>rfl);all_goals (intro h;(try simp only [reduceCtorEq,zzz] at h);first|(exfalso;omega)|skip)))
        all_goals (apply dtg 6;(case hi=>rfl);(case hg=>rfl);(case hop=>(apply prd;apply p_move <;> rfl));(case hq=>kernel_rfl))
        all_goals (try (apply d_guardB 7;(case hi=>rfl);(case hgd=>rfl);(case h1=>rfl);(case h2=>rfl);all_goals (intro h;(try simp only [reduceCtorEq,zzz] at h))))
        all_goals (apply dtg 7;(case hi=>rfl);(case hg=>rfl);(case hop=>(apply prd;apply p_move <;> rfl));(case hq=>kernel_rfl))
        all_goals (try (apply d_guardB 8;(case hi=>rfl);(case hgd=>rfl);(case h1=>rfl);(case h2=>rfl);all_goals (intro h;(try simp only [reduceCtorEq,zzz] at h))))
        all_goals (apply dtg 8;(case hi=>rfl);(case hg=>rfl);(case hop=>(apply prd;apply p_add;(case hx=>rfl);(case hy=>rfl);(case h=>omega)));(case hq=>kernel_rfl))
        all_goals (try (apply d_guardB 9;(case hi=>rfl);(case hgd=>rfl);(case h1=>rfl);(case h2=>rfl);all_goals (intro h;(try simp only [reduceCtorEq,zzz] at h))))
        all_goals (apply dtg 9;(case hi=>rfl);(case hg=>rfl);(case hop=>(apply prd;apply p_indexAddrS;(case hx=>rfl);(case hi=>rfl);(case h0=>omega);(case h=>omega);(case hA=>assumption)));(case hq=>kernel_rfl))
        all_goals (try (apply d_guardB 10;(case hi=>rfl);(case hgd=>rfl);(case h1=>rfl);(case h2=>rfl);all_goals (intro h;(try simp only [reduceCtorEq,zzz] at h))))
        all_goals (apply dtg 10;(case hi=>rfl);(case hg=>rfl);(case hop=>((apply r_load1;rfl;exact Cell.frozen kc1)));(case hq=>kernel_rfl))
        all_goals (try (apply d_guardB 11;(case hi=>rfl);(case hgd=>rfl);(case h1=>rfl);(case h2=>rfl);all_goals (intro h;(try simp only [reduceCtorEq,zzz] at h))))
        all_goals (apply dtg 11;(case hi=>rfl);(case hg=>rfl);(case hop=>(apply prd;apply p_indexAddrB;(case hx=>rfl);(case hi=>rfl);(case h0=>omega);(case h=>omega)));(case hq=>kernel_rfl))
        all_goals (try (apply d_guardB 12;(case hi=>rfl);(case hgd=>rfl);(case h1=>rfl);(case h2=>rfl);all_goals (intro h;(try simp only [reduceCtorEq,zzz] at h))))
        all_goals (apply dtg 12;(case hi=>rfl);(case hg=>rfl);(case hop=>(apply r_load1;rfl;(apply Cell.own;(case h=>(repeat (first|exact mhd _|apply mtl)));rfl)));(case hq=>kernel_rfl))
        all_goals (try (apply d_guardB 13;(case hi=>rfl);(case hgd=>rfl);(case h1=>rfl);(case h2=>rfl);all_goals (intro h;(try simp only [reduceCtorEq,zzz] at h))))
        all_goals (apply dtg 13;(case hi=>rfl);(case hg=>rfl);(case hop=>(apply prd;apply p_le <;> rfl));(case hq=>kernel_rfl))
        all_goals (apply dtk 14;(case hi=>rfl);(case hop=>(apply prd;apply p_pickT <;> rfl));(case hq=>kernel_rfl))
        all_goals (apply d_done;(case hr=>kernel_rfl))
        repeat' (first|apply v_seq|(apply v_exit;(case hp=>rfl))|(apply v_cond;(case hc=>rfl);all_goals (intro h;(try simp only [reduceCtorEq,zzz] at h);first|(exfalso;omega)|skip))|fail)
        refine d_start _ (by kernel_rfl) (by kernel_rfl) (by kernel_rfl) (fun _ he=>he) ?_
        all_goals (apply dtk 0;(case hi=>rfl);(case hop=>(apply prd;apply p_move <;> rfl));(case hq=>kernel_rfl))
        all_goals (apply dtk 1;(case hi=>rfl);(case hop=>(apply prd;apply p_eqs <;> rfl));(case hq=>kernel_rfl))
        all_goals (apply dtk 2;(case hi=>rfl);(case hop=>(apply prd;apply p_move <;> rfl));(case hq=>kernel_rfl))
        all_goals (try (apply d_guardB 3;(case hi=>rfl);(case hgd=>rfl);(case h1=>rfl);(case h2=>rfl);all_goals (intro h;(try simp only [reduceCtorEq,zzz] at h))))
        all_goals (apply dtg 3;(case hi=>rfl);(case hg=>rfl);(case hop=>(apply prd;apply p_fieldAddrB <;> rfl));(case hq=>kernel_rfl))
        all_goals (try (apply d_guardB 4;(case hi=>rfl);(case hgd=>rfl);(case h1=>rfl);(case h2=>rfl);all_goals (intro h;(try simp only [reduceCtorEq,zzz] at h))))
        all_goals (apply dtg 4;(case hi=>rfl);(case hg=>rfl);(case hop=>(apply r_load1;rfl;(apply Cell.own;(case h=>(repeat (exact mhd _)));rfl)));(case hq=>kernel_rfl))
        all_goals (try (apply d_guardB 5;(case hi=>rfl);(case hgd=>rfl);(case h1=>rfl);(case h2=>rfl);all_goals (intro h;(try simp only [reduceCtorEq,zzz] at h))))
        all_goals (apply dtg 5;(case hi=>rfl);(case hg=>rfl);(case hop=>(apply prd;apply p_move <;> rfl));(case hq=>kernel_rfl))
        all_goals (try (apply d_guardB 6;(case hi=>rfl);(case hgd=>rfl);(case h1=>rfl);(case h2=>rfl);all_goals (intro h;(try simp only [reduceCtorEq,zzz] at h))))
        all_goals (apply dtg 6;(case hi=>rfl);(case hg=>rfl);(case hop=>(apply prd;apply p_eqs <;> rfl));(case hq=>kernel_rfl))
        all_goals (apply dtk 7;(case hi=>rfl);(case hop=>(apply prd;apply p_pickT <;> rfl));(case hq=>kernel_rfl))
        all_goals (apply dtk 8;(case hi=>rfl);(case hop=>(apply prd;apply p_move <;> rfl));(case hq=>kernel_rfl))
        all_goals (try (apply d_guardB 9;(case hi=>rfl);(case hgd=>rfl);(case h1=>rfl);(case h2=>rfl);all_goals (intro h;(try simp only [reduceCtorEq,zzz] at h))))
        all_goals (apply dtg 9;(case hi=>rfl);(case hg=>rfl);(case hop=>(apply prd;apply p_fieldAddrB <;> rfl));(case hq=>kernel_rfl))
        all_goals (try (apply d_guardB 10;(case hi=>rfl);(case hgd=>rfl);(case h1=>rfl);(case h2=>rfl);all_goals (intro h;(try simp only [reduceCtorEq,zzz] at h))))
        all_goals (apply dtg 10;(case hi=>rfl);(case hg=>rfl);(case hop=>(apply r_load1;rfl;(apply Cell.own;(case h=>(repeat (exact mhd _)));rfl)));(case hq=>kernel_rfl))
        all_goals (try (apply d_guardB 11;(case hi=>rfl);(case hgd=>rfl);(case h1=>rfl);(case h2=>rfl);all_goals (intro h;(try simp only [reduceCtorEq,zzz] at h))))
        all_goals (apply dtg 11;(case hi=>rfl);(case hg=>rfl);(case hop=>(apply prd;apply p_move <;> rfl));(case hq=>kernel_rfl))
        all_goals (try (apply d_guardB 12;(case hi=>rfl);(case hgd=>rfl);(case h1=>rfl);(case h2=>rfl);all_goals (intro h;(try simp only [reduceCtorEq,zzz] at h))))
        all_goals (apply dtg 12;(case hi=>rfl);(case hg=>rfl);(case hop=>(apply prd;apply p_eqs <;> rfl));(case hq=>kernel_rfl))
        all_goals (apply dtk 13;(case hi=>rfl);(case hop=>(apply prd;apply p_pickT <;> rfl));(case hq=>kernel_rfl))
        all_goals (apply dtk 14;(case hi=>rfl);(case hop=>(apply prd;apply p_move <;> rfl));(case hq=>kernel_rfl))
        all_goals (try (apply d_guardB 15;(case hi=>rfl);(case hgd=>rfl);(case h1=>rfl);(case h2=>rfl);all_goals (intro h;(try simp only [reduceCtorEq,zzz] at h))))
        all_goals (apply dtg 15;(case hi=>rfl);(case hg=>rfl);(case hop=>(apply prd;apply p_fieldAddrB <;> rfl));(case hq=>kernel_rfl))
        all_goals (try (apply d_guardB 16;(case hi=>rfl);(case hgd=>rfl);(case h1=>rfl);(case h2=>rfl);all_goals (intro h;(try simp only [reduceCtorEq,zzz] at h))))
        all_goals (apply dtg 16;(case hi=>rfl);(case hg=>rfl);(case hop=>(apply r_load1;rfl;(apply Cell.own;(case h=>(repeat (exact mhd _)));rfl)));(case hq=>kernel_rfl))
        all_goals (try (apply d_guardB 17;(case hi=>rfl);(case hgd=>rfl);(case h1=>rfl);(case h2=>rfl);all_goals (intro h;(try simp only [reduceCtorEq,zzz] at h))))
        all_goals (apply dtg 17;(case hi=>rfl);(case hg=>rfl);(case hop=>(apply prd;apply p_move <;> rfl));(case hq=>kernel_rfl))
        all_goals (try (apply d_guardB 18;(case hi=>rfl);(case hgd=>rfl);(case h1=>rfl);(case h2=>rfl);all_goals (intro h;(try simp only [reduceCtorEq,zzz] at h))))
        all_goals (apply dtg 18;(case hi=>rfl);(case hg=>rfl);(case hop=>(apply prd;apply p_move <;> rfl));(case hq=>kernel_rfl))
        all_goals (try (apply d_guardB 19;(case hi=>rfl);(case hgd=>rfl);(case h1=>rfl);(case h2=>rfl);all_goals (intro h;(try simp only [reduceCtorEq,zzz] at h))))
        all_goals (apply dtg 19;(case hi=>rfl);(case hg=>rfl);(case hop=>(apply prd;apply p_indexAddrS;(case hx=>rfl);(case hi=>rfl);(case h0=>omega);(case h=>omega);(case hA=>assumption)));(case hq=>kernel_rfl))
        all_goals (try (apply d_guardB 20;(case hi=>rfl);(case hgd=>rfl);(case h1=>rfl);(case h2=>rfl);all_goals (intro h;(try simp only [reduceCtorEq,zzz] at h))))
        all_goals (apply dtg 20;(case hi=>rfl);(case hg=>rfl);(case hop=>((apply r_load1;rfl;exact Cell.frozen kcK)));(case hq=>kernel_rfl))
        all_goals (try (apply d_guardB 21;(case hi=>rfl);(case hgd=>rfl);(case h1=>rfl);(case h2=>rfl);all_goals (intro h;(try simp only [reduceCtorEq,zzz] at h))))
        all_goals (apply dtg 21;(case hi=>rfl);(case hg=>rfl);(case hop=>(apply prd;apply p_eqs <;> rfl));(case hq=>kernel_rfl))
        all_goals (apply dtk 22;(case hi=>rfl);(case hop=>(apply prd;apply p_pickT <;> rfl));(case hq=>kernel_rfl))
        all_goals (apply dtk 23;(case hi=>rfl);(case hop=>(apply prd;apply p_move <;> rfl));(case hq=>kernel_rfl))
        all_goals (try (apply d_guardB 24;(case hi=>rfl);(case hgd=>rfl);(case h1=>rfl);(case h2=>rfl);all_goals (intro h;(try simp only [reduceCtorEq,zzz] at h))))
        all_goals (apply dtg 24;(case hi=>rfl);(case hg=>rfl);(case hop=>(apply prd;apply p_fieldAddrB <;> rfl));(case hq=>kernel_rfl))
        all_goals (try (apply d_guardB 25;(case hi=>rfl);(case hgd=>rfl);(case h1=>rfl);(case h2=>rfl);all_goals (intro h;(try simp only [reduceCtorEq,zzz] at h))))
        all_goals (apply dtg 25;(case hi=>rfl);(case hg=>rfl);(case hop=>(apply r_loadNo;(case hx=>rfl);(case h=>(repeat (exact mhd _)));(case hd=>(repeat (first|with_reducible exact dt_nil|apply dt_here)));(case hn=>rfl)));(case hq=>kernel_rfl))
        all_goals (try (apply d_guardB 26;(case hi=>rfl);(case hgd=>rfl);(case h1=>rfl);(case h2=>rfl);all_goals (intro h;(try simp only [reduceCtorEq,zzz] at h))))
        all_goals (apply dtg 26;(case hi=>rfl);(case hg=>rfl);(case hop=>(apply r_loadNo;(case hx=>rfl);(case h=>(repeat (first|exact mhd _|apply mtl)));(case hd=>(repeat (first|with_reducible exact dt_nil|apply dt_here)));(case hn=>rfl)));(case hq=>kernel_rfl))
        all_goals (try (apply d_guardB 27;(case hi=>rfl);(case hgd=>rfl);(case h1=>rfl);(case h2=>rfl);all_goals (intro h;(try simp only [reduceCtorEq,zzz] at h))))
        all_goals (apply dtg 27;(case hi=>rfl);(case hg=>rfl);(case hop=>(apply prd;apply p_move <;> rfl));(case hq=>kernel_rfl))
        all_goals (try (apply d_guardB 28;(case hi=>rfl);(case hgd=>rfl);(case h1=>rfl);(case h2=>rfl);all_goals (intro h;(try simp only [reduceCtorEq,zzz] at h))))
        all_goals (apply dtg 28;(case hi=>rfl);(case hg=>rfl);(case hop=>(apply prd;apply p_move <;> rfl));(case hq=>kernel_rfl))
        all_goals (try (apply d_guardB 29;(case hi=>rfl);(case hgd=>rfl);(case h1=>rfl);(case h2=>rfl);all_goals (intro h;(try simp only [reduceCtorEq,zzz] at h))))
        all_goals (apply dtg 29;(case hi=>rfl);(case hg=>rfl);(case hop=>(apply prd;apply p_move <;> rfl));(case hq=>kernel_rfl))
        all_goals (try (apply d_guardB 30;(case hi=>rfl);(case hgd=>rfl);(case h1=>rfl);(case h2=>rfl);all_goals (intro h;(try simp only [reduceCtorEq,zzz] at h))))
        all_goals (apply dtg 30;(case hi=>rfl);(case hg=>rfl);(case hop=>(apply prd;apply p_sub;(case hx=>rfl);(case hy=>rfl);(case h=>omega)));(case hq=>kernel_rfl))
        all_goals (try (apply d_guardB 31;(case hi=>rfl);(case hgd=>rfl);(case h1=>rfl);(case h2=>rfl);all_goals (intro h;(try simp only [reduceCtorEq,zzz] at h))))
        all_goals (apply dtg 31;(case hi=>rfl);(case hg=>rfl);(case hop=>(apply prd;apply p_sliceH;(case hx=>rfl);(case hh=>rfl);all_goals omega));(case hq=>kernel_rfl))
        all_goals (try (apply d_guardB 32;(case hi=>rfl);(case hgd=>rfl);(case h1=>rfl);(case h2=>rfl);all_goals (intro h;(try simp only [reduceCtorEq,zzz] at h))))
        all_goals ((apply d_callG 32 (hs:=qBK) (μ1:=[]);(case hi=>rfl);(case hg=>rfl);(case hr=>kernel_rfl);  (case ha=>rfl);(case hp=>exact List.Perm.refl _);(case hd=>rfl);(case hν'=>intro e he;simp at he;simp [he]);rintro _ G11 _ hle11 ⟨rfl,L11,rfl,hh11⟩))
        all_goals (try (apply d_guardB 33;(case hi=>rfl);(case hgd=>rfl);(case h1=>rfl);(case h2=>rfl);all_goals (intro h;(try simp only [reduceCtorEq,zzz] at h))))
        all_goals (apply d_callJG 33 (hs:=(hSame_s (hHK.le hle11) hh11));(case hi=>rfl);(case hg=>rfl);(case hr=>kernel_rfl);(case ha=>rfl);(case hd=>rfl))
        all_goals (apply dtk 34;(case hi=>rfl);(case hop=>(apply prd;apply p_pickT <;> rfl));(case hq=>kernel_rfl))
        all_goals (apply dtk 35;(case hi=>rfl);(case hop=>(apply prd;apply p_move <;> rfl));(case hq=>kernel_rfl))
        all_goals (try (apply d_guardB 36;(case hi=>rfl);(case hgd=>rfl);(case h1=>rfl);(case h2=>rfl);all_goals (intro h;(try simp only [reduceCtorEq,zzz] at h))))
        all_goals (apply d_callJG 36 (hs:=(qa _ (GH.le_trans hle210 hle11)));(case hi=>rfl);(case hg=>rfl);(case hr=>kernel_rfl);(case ha=>rfl);(case hd=>rfl))
        all_goals (apply dtk 37;(case hi=>rfl);(case hop=>(apply prd;apply p_pickT <;> rfl));(case hq=>kernel_rfl))
        all_goals (apply dtk 38;(case hi=>rfl);(case hop=>(apply prd;apply p_assign <;> rfl));(case hq=>kernel_rfl))
        all_goals (apply d_done;(case hr=>kernel_rfl))
        repeat' (fail)
        refine v_ret [] (outsA1 rfl rfl) (by repeat (exact List.nil_sublist _)) ?_
        rfl
      · repeat' (first|apply v_seq)
        refine d_start _ (by kernel_rfl) (by kernel_rfl) (by kernel_rfl) (fun _ he=>he) ?_
        all_goals (apply dtk 0;(case hi=>rfl);(case hop=>(apply prd;apply p_move <;> rfl));(case hq=>kernel_rfl))
        all_goals (apply dtk 1;(case hi=>rfl);(case hop=>(apply prd;apply p_add;(case hx=>rfl);(case hy=>rfl);(case h=>omega)));(case hq=>kernel_rfl))
        all_goals (apply dtk 2;(case hi=>rfl);(case hop=>(apply prd;apply p_move <;> rfl));(case hq=>kernel_rfl))
        all_goals (apply dtk 3;(case hi=>rfl);(case hop=>(apply prd;apply p_lenSlice <;> rfl));(case hq=>kernel_rfl))
        all_goals (apply dtk 4;(case hi=>rfl);(case hop=>(apply prd;apply p_lt <;> rfl));(case hq=>kernel_rfl))
        all_goals (apply dtk 5;(case hi=>rfl);(case hop=>(apply prd;apply p_move <;> rfl));(case hq=>kernel_rfl))
        all_goals (try (apply d_guardB 6;(case hi=>rfl);(case hgd=>rfl);(case h1=>rfl);(case h2=>rfl);all_goals (intro h;(try simp only [reduceCtorEq,zzz] at h);first|(exfalso;omega)|skip)))
        all_goals (apply dpa 6;(case hi=>rfl);(case hg=>rfl);(case hn=>rfl);(case hq=>kernel_rfl))
        all_goals (try (apply d_guardB 7;(case hi=>rfl);(case hgd=>rfl);(case h1=>rfl);(case h2=>rfl);all_goals (intro h;(try simp only [reduceCtorEq,zzz] at h))))
        all_goals (apply dpa 7;(case hi=>rfl);(case hg=>rfl);(case hn=>rfl);(case hq=>kernel_rfl))
        all_goals (try (apply d_guardB 8;(case hi=>rfl);(case hgd=>rfl);(case h1=>rfl);(case h2=>rfl);all_goals (intro h;(try simp only [reduceCtorEq,zzz] at h))))
        all_goals (apply dpa 8;(case hi=>rfl);(case hg=>rfl);(case hn=>rfl);(case hq=>kernel_rfl))
        all_goals (try (apply d_guardB 9;(case hi=>rfl);(case hgd=>rfl);(case h1=>rfl);(case h2=>rfl);all_goals (intro h;(try simp only [reduceCtorEq,zzz] at h))))
        all_goals (apply dpa 9;(case hi=>rfl);(case hg=>rfl);(case hn=>rfl);(case hq=>kernel_rfl))
        all_goals (try (apply d_guardB 10;(case hi=>rfl);(case hgd=>rfl);(case h1=>rfl);(case h2=>rfl);all_goals (intro h;(try simp only [reduceCtorEq,zzz] at h))))
        all_goals (apply dpa 10;(case hi=>rfl);(case hg=>rfl);(case hn=>rfl);(case hq=>kernel_rfl))
        all_goals (try (apply d_guardB 11;(case hi=>rfl);(case hgd=>rfl);(case h1=>rfl);(case h2=>rfl);all_goals (intro h;(try simp only [reduceCtorEq,zzz] at h))))
        all_goals (apply dpa 11;(case hi=>rfl);(case hg=>rfl);(case hn=>rfl);(case hq=>kernel_rfl))
        all_goals (try (apply d_guardB 12;(case hi=>rfl);(case hgd=>rfl);(case h1=>rfl);(case h2=>rfl);all_goals (intro h;(try simp only [reduceCtorEq,zzz] at h))))
        all_goals (apply dpa 12;(case hi=>rfl);(case hg=>rfl);(case hn=>rfl);(case hq=>kernel_rfl))
        all_goals (try (apply d_guardB 13;(case hi=>rfl);(case hgd=>rfl);(case h1=>rfl);(case h2=>rfl);all_goals (intro h;(try simp only [reduceCtorEq,zzz] at h))))
        all_goals (apply dpa 13;(case hi=>rfl);(case hg=>rfl);(case hn=>rfl);(case hq=>kernel_rfl))
        all_goals (apply dtk 14;(case hi=>rfl);(case hop=>(apply prd;apply p_pickF <;> rfl));(case hq=>kernel_rfl))
        all_goals (apply d_done;(case hr=>kernel_rfl))
        repeat' (first|apply v_seq|(apply v_exit;(case hp=>rfl))|(apply v_condF;(case hc=>rfl))|fail)
        refine d_start _ (by kernel_rfl) (by kernel_rfl) (by kernel_rfl) (fun _ he=>he) ?_
        all_goals (apply dtk 0;(case hi=>rfl);(case hop=>(apply prd;apply p_move <;> rfl));(case hq=>kernel_rfl))
        all_goals (apply dtk 1;(case hi=>rfl);(case hop=>(apply prd;apply p_eqs <;> rfl));(case hq=>kernel_rfl))
        all_goals (apply dtk 2;(case hi=>rfl);(case hop=>(apply prd;apply p_move <;> rfl));(case hq=>kernel_rfl))
        all_goals (try (apply d_guardB 3;(case hi=>rfl);(case hgd=>rfl);(case h1=>rfl);(case h2=>rfl);all_goals (intro h;(try simp only [reduceCtorEq,zzz] at h))))
        all_goals (apply dtg 3;(case hi=>rfl);(case hg=>rfl);(case hop=>(apply prd;apply p_fieldAddrB <;> rfl));(case hq=>kernel_rfl))
        all_goals (try (apply d_guardB 4;(case hi=>rfl);(case hgd=>rfl);(case h1=>rfl);(case h2=>rfl);all_goals (intro h;(try simp only [reduceCtorEq,zzz] at h))))
        all_goals (apply dtg 4;(case hi=>rfl);(case hg=>rfl);(case hop=>(apply r_load1;rfl;(apply Cell.own;(case h=>(repeat (exact mhd _)));rfl)));(case hq=>kernel_rfl))
        all_goals (try (apply d_guardB 5;(case hi=>rfl);(case hgd=>rfl);(case h1=>rfl);(case h2=>rfl);all_goals (intro h;(try simp only [reduceCtorEq,zzz] at h))))
        all_goals (apply dtg 5;(case hi=>rfl);(case hg=>rfl);(case hop=>(apply prd;apply p_move <;> rfl));(case hq=>kernel_rfl))
        all_goals (try (apply d_guardB 6;(case hi=>rfl);(case hgd=>rfl);(case h1=>rfl);(case h2=>rfl);all_goals (intro h;(try simp only [reduceCtorEq,zzz] at h))))
        all_goals (apply dtg 6;(case hi=>rfl);(case hg=>rfl);(case hop=>(apply prd;apply p_eqs <;> rfl));(case hq=>kernel_rfl))
        all_goals (apply dtk 7;(case hi=>rfl);(case hop=>(apply prd;apply p_pickT <;> rfl));(case hq=>kernel_rfl))
        all_goals (apply dtk 8;(case hi=>rfl);(case hop=>(apply prd;apply p_move <;> rfl));(case hq=>kernel_rfl))
        all_goals (try (apply d_guardB 9;(case hi=>rfl);(case hgd=>rfl);(case h1=>rfl);(case h2=>rfl);all_goals (intro h;(try simp only [reduceCtorEq,zzz] at h))))
        all_goals (apply dtg 9;(case hi=>rfl);(case hg=>rfl);(case hop=>(apply prd;apply p_fieldAddrB <;> rfl));(case hq=>kernel_rfl))
        all_goals (try (apply d_guardB 10;(case hi=>rfl);(case hgd=>rfl);(case h1=>rfl);(case h2=>rfl);all_goals (intro h;(try simp only [reduceCtorEq,zzz] at h))))
        all_goals (apply dtg 10;(case hi=>rfl);(case hg=>rfl);(case hop=>(apply r_load1;rfl;(apply Cell.own;(case h=>(repeat (exact mhd _)));rfl)));(case hq=>kernel_rfl))
        all_goals (try (apply d_guardB 11;(case hi=>rfl);(case hgd=>rfl);(case h1=>rfl);(case h2=>rfl);all_goals (intro h;(try simp only [reduceCtorEq,zzz] at h))))
        all_goals (apply dtg 11;(case hi=>rfl);(case hg=>rfl);(case hop=>(apply prd;apply p_move <;> rfl));(case hq=>kernel_rfl))
        all_goals (try (apply d_guardB 12;(case hi=>rfl);(case hgd=>rfl);(case h1=>rfl);(case h2=>rfl);all_goals (intro h;(try simp only [reduceCtorEq,zzz] at h))))
        all_goals (apply dtg 12;(case hi=>rfl);(case hg=>rfl);(case hop=>(apply prd;apply p_eqs <;> rfl));(case hq=>kernel_rfl))
        all_goals (apply dtk 13;(case hi=>rfl);(case hop=>(apply prd;apply p_pickT <;> rfl));(case hq=>kernel_rfl))
        all_goals (apply dtk 14;(case hi=>rfl);(case hop=>(apply prd;apply p_move <;> rfl));(case hq=>kernel_rfl))
        all_goals (try (apply d_guardB 15;(case hi=>rfl);(case hgd=>rfl);(case h1=>rfl);(case h2=>rfl);all_goals (intro h;(try simp only [reduceCtorEq,zzz] at h))))
        all_goals (apply dtg 15;(case hi=>rfl);(case hg=>rfl);(case hop=>(apply prd;apply p_fieldAddrB <;> rfl));(case hq=>kernel_rfl))
        all_goals (try (apply d_guardB 16;(case hi=>rfl);(case hgd=>rfl);(case h1=>rfl);(case h2=>rfl);all_goals (intro h;(try simp only [reduceCtorEq,zzz] at h))))
        all_goals (apply dtg 16;(case hi=>rfl);(case hg=>rfl);(case hop=>(apply r_load1;rfl;(apply Cell.own;(case h=>(repeat (exact mhd _)));rfl)));(case hq=>kernel_rfl))
        all_goals (try (apply d_guardB 17;(case hi=>rfl);(case hgd=>rfl);(case h1=>rfl);(case h2=>rfl);all_goals (intro h;(try simp only [reduceCtorEq,zzz] at h))))
        all_goals (apply dtg 17;(case hi=>rfl);(case hg=>rfl);(case hop=>(apply prd;apply p_move <;> rfl));(case hq=>kernel_rfl))
        all_goals (try (apply d_guardB 18;(case hi=>rfl);(case hgd=>rfl);(case h1=>rfl);(case h2=>rfl);all_goals (intro h;(try simp only [reduceCtorEq,zzz] at h))))
        all_goals (apply dtg 18;(case hi=>rfl);(case hg=>rfl);(case hop=>(apply prd;apply p_move <;> rfl));(case hq=>kernel_rfl))
        all_goals (try (apply d_guardB 19;(case hi=>rfl);(case hgd=>rfl);(case h1=>rfl);(case h2=>rfl);all_goals (intro h;(try simp only [reduceCtorEq,zzz] at h))))
        all_goals (apply dtg 19;(case hi=>rfl);(case hg=>rfl);(case hop=>(apply prd;apply p_indexAddrS;(case hx=>rfl);(case hi=>rfl);(case h0=>omega);(case h=>omega);(case hA=>assumption)));(case hq=>kernel_rfl))
        all_goals (try (apply d_guardB 20;(case hi=>rfl);(case hgd=>rfl);(case h1=>rfl);(case h2=>rfl);all_goals (intro h;(try simp only [reduceCtorEq,zzz] at h))))
        all_goals (apply dtg 20;(case hi=>rfl);(case hg=>rfl);(case hop=>((apply r_load1;rfl;exact Cell.frozen kcK)));(case hq=>kernel_rfl))
        all_goals (try (apply d_guardB 21;(case hi=>rfl);(case hgd=>rfl);(case h1=>rfl);(case h2=>rfl);all_goals (intro h;(try simp only [reduceCtorEq,zzz] at h))))
        all_goals (apply dtg 21;(case hi=>rfl);(case hg=>rfl);(case hop=>(apply prd;apply p_eqs <;> rfl));(case hq=>kernel_rfl))
        all_goals (apply dtk 22;(case hi=>rfl);(case hop=>(apply prd;apply p_pickT <;> rfl));(case hq=>kernel_rfl))
        all_goals (apply dtk 23;(case hi=>rfl);(case hop=>(apply prd;apply p_move <;> rfl));(case hq=>kernel_rfl))
        all_goals (try (apply d_guardB 24;(case hi=>rfl);(case hgd=>rfl);(case h1=>rfl);(case h2=>rfl);all_goals (intro h;(try simp only [reduceCtorEq,zzz] at h))))
        all_goals (apply dtg 24;(case hi=>rfl);(case hg=>rfl);(case hop=>(apply prd;apply p_fieldAddrB <;> rfl));(case hq=>kernel_rfl))
        all_goals (try (apply d_guardB 25;(case hi=>rfl);(case hgd=>rfl);(case h1=>rfl);(case h2=>rfl);all_goals (intro h;(try simp only [reduceCtorEq,zzz] at h))))
        all_goals (apply dtg 25;(case hi=>rfl);(case hg=>rfl);(case hop=>(apply r_loadNo;(case hx=>rfl);(case h=>(repeat (exact mhd _)));(case hd=>(repeat (first|with_reducible exact dt_nil|apply dt_here)));(case hn=>rfl)));(case hq=>kernel_rfl))
        all_goals (try (apply d_guardB 26;(case hi=>rfl);(case hgd=>rfl);(case h1=>rfl);(case h2=>rfl);all_goals (intro h;(try simp only [reduceCtorEq,zzz] at h))))
        all_goals (apply dtg 26;(case hi=>rfl);(case hg=>rfl);(case hop=>(apply r_loadNo;(case hx=>rfl);(case h=>(repeat (first|exact mhd _|apply mtl)));(case hd=>(repeat (first|with_reducible exact dt_nil|apply dt_here)));(case hn=>rfl)));(case hq=>kernel_rfl))
        all_goals (try (apply d_guardB 27;(case hi=>rfl);(case hgd=>rfl);(case h1=>rfl);(case h2=>rfl);all_goals (intro h;(try simp only [reduceCtorEq,zzz] at h))))
        all_goals (apply dtg 27;(case hi=>rfl);(case hg=>rfl);(case hop=>(apply prd;apply p_move <;> rfl));(case hq=>kernel_rfl))
        all_goals (try (apply d_guardB 28;(case hi=>rfl);(case hgd=>rfl);(case h1=>rfl);(case h2=>rfl);all_goals (intro h;(try simp only [reduceCtorEq,zzz] at h))))
        all_goals (apply dtg 28;(case hi=>rfl);(case hg=>rfl);(case hop=>(apply prd;apply p_move <;> rfl));(case hq=>kernel_rfl))
        all_goals (try (apply d_guardB 29;(case hi=>rfl);(case hgd=>rfl);(case h1=>rfl);(case h2=>rfl);all_goals (intro h;(try simp only [reduceCtorEq,zzz] at h))))
        all_goals (apply dtg 29;(case hi=>rfl);(case hg=>rfl);(case hop=>(apply prd;apply p_move <;> rfl));(case hq=>kernel_rfl))
        all_goals (try (apply d_guardB 30;(case hi=>rfl);(case hgd=>rfl);(case h1=>rfl);(case h2=>rfl);all_goals (intro h;(try simp only [reduceCtorEq,zzz] at h))))
        all_goals (apply dtg 30;(case hi=>rfl);(case hg=>rfl);(case hop=>(apply prd;apply p_sub;(case hx=>rfl);(case hy=>rfl);(case h=>omega)));(case hq=>kernel_rfl))
        all_goals (try (apply d_guardB 31;(case hi=>rfl);(case hgd=>rfl);(case h1=>rfl);(case h2=>rfl);all_goals (intro h;(try simp only [reduceCtorEq,zzz] at h))))
        all_goals (apply dtg 31;(case hi=>rfl);(case hg=>rfl);(case hop=>(apply prd;apply p_sliceH;(case hx=>rfl);(case hh=>rfl);all_goals omega));(case hq=>kernel_rfl))
        all_goals (try (apply d_guardB 32;(case hi=>rfl);(case hgd=>rfl);(case h1=>rfl);(case h2=>rfl);all_goals (intro h;(try simp only [reduceCtorEq,zzz] at h))))
        all_goals ((apply d_callG 32 (hs:=qBK) (μ1:=[]);(case hi=>rfl);(case hg=>rfl);(case hr=>kernel_rfl);  (case ha=>rfl);(case hp=>exact List.Perm.refl _);(case hd=>rfl);(case hν'=>intro e he;simp at he;simp [he]);rintro _ G11 _ hle11 ⟨rfl,L11,rfl,hh11⟩))
        all_goals (try (apply d_guardB 33;(case hi=>rfl);(case hgd=>rfl);(case h1=>rfl);(case h2=>rfl);all_goals (intro h;(try simp only [reduceCtorEq,zzz] at h))))
        all_goals (apply d_callJG 33 (hs:=(hSame_s (hHK.le hle11) hh11));(case hi=>rfl);(case hg=>rfl);(case hr=>kernel_rfl);(case ha=>rfl);(case hd=>rfl))
        all_goals (apply dtk 34;(case hi=>rfl);(case hop=>(apply prd;apply p_pickT <;> rfl));(case hq=>kernel_rfl))
        all_goals (apply dtk 35;(case hi=>rfl);(case hop=>(apply prd;apply p_move <;> rfl));(case hq=>kernel_rfl))
        all_goals (try (apply d_guardB 36;(case hi=>rfl);(case hgd=>rfl);(case h1=>rfl);(case h2=>rfl);all_goals (intro h;(try simp only [reduceCtorEq,zzz] at h))))
        all_goals (apply d_callJG 36 (hs:=(qa _ (GH.le_trans hle210 hle11)));(case hi=>rfl);(case hg=>rfl);(case hr=>kernel_rfl);(case ha=>rfl);(case hd=>rfl))
        all_goals (apply dtk 37;(case hi=>rfl);(case hop=>(apply prd;apply p_pickT <;> rfl));(case hq=>kernel_rfl))
        all_goals (apply dtk 38;(case hi=>rfl);(case hop=>(apply prd;apply p_assign <;> rfl));(case hq=>kernel_rfl))
        all_goals (apply d_done;(case hr=>kernel_rfl))
        repeat' (fail)
        refine v_ret [] (outsA1 rfl rfl) (by repeat (exact List.nil_sublist _)) ?_
        rfl
theorem segmCut_law {W:World} {v0 v1 v2:Value} (hT:TabsG (ghost W) ∧ CrcG (ghost W)) (g0:∃ (y:Hd) (cs:List Value),v0 = .agg cs.toArray ∧ HdV (ghost W) y cs) (g1:∃ l,Rs (ghost W) v1 l) (g2:IsTwo v2):LawCon Tryz.prog 5 #[v0,v1,v2] W:=by
  obtain ⟨H,L,rfl,hh⟩:=g0
  obtain ⟨more,hm⟩:=g1
  obtain ⟨a,b,rfl,-,-⟩:=g2
  exact segmCut_main hT.1 hT.2 hh hm a b
theorem clos_laid:laidOutB Tryz.prog = true:=by kernel_rfl
theorem clos_rowed:mapsRowed Tryz.prog = true:=by kernel_rfl
theorem clos_heard:Tryz.prog.stopsHeard = true:=by kernel_rfl
theorem clos_may:Tryz.prog.mayEnter = true:=by kernel_rfl
theorem clos_lifts:(Rows.segmHeadsRow.lifted == Tryz.prog.liftsFinal) = true:=by kernel_rfl
theorem clos_make:(Tryz.prog.make == some Rows.segmHeadsRow.make) = true:=by kernel_rfl
theorem clos_plain:(Rows.segmHeadsRow.plainKeys == Tryz.prog.plainKeys) = true:=by kernel_rfl
theorem clos_main:Tryz.prog.mainIs = some (true, "ff985d4a2c195d2b053ff752d8f9403905b3d56cfab988831be32c96f38effc7".toList):=by kernel_rfl
theorem clos_looks:true = Tryz.prog.looks []:=by kernel_rfl
theorem segmCut_own : ownKnob Tryz.prog.godebug = none := by kernel_rfl
theorem segmCut_laidOut : laidOutB Tryz.prog = true := clos_laid
theorem segmCut_spec : LawSpec Rows.segmCutSpec 3 := ⟨rfl, fun H ds h => by match ds, h with | [d0, d1, d2], _ => rfl⟩
set_option maxRecDepth 100000 in
theorem segmCut_lifted (os : Os) (started : os.Started) (H : Type) (enc : TypeId × Value → H) :
    ReturnsInHanded {} Tryz.checked os 5 .any (fun w args => (Rows.segmCutSpec.pre enc Tryz.prog Tryz.f5 Rows.segmCutRow.domain false w args ∧ laidMetH Tryz.prog tabsLaid3 w) ∧ sizedMet enc Tryz.prog Tryz.f5 (OpenSpec.ofChange Rows.segmCutSpec) false w args)
      (Rows.segmCutSpec.post enc Tryz.prog Tryz.f5 false true false false) := by
  refine returnsInHanded_of_change_and (C := Tryz.checked) (X := fun w _ => laidMetH Tryz.prog tabsLaid3 w) (fun _ _ _ hh h => h.of_heap hh) segmCut_own started (by kernel_rfl) Tryz.func5
    (ChangeSpec.witness_shaped (enc := enc) (C := Tryz.checked) (os := os) (X := fun w _ => laidMetH Tryz.prog tabsLaid3 w) false (World.laidAll Tryz.prog os tabsLaid3) #[.agg #[.int .i64 0, .int .i64 0, .int .i64 0, .slice none 0 0, .slice none 0 0, .slice none 0 0], .slice none 0 0, .agg #[.int .i64 0, .int .i64 0]] 8 (World.laidAll_os _ _ _)
      (World.shaped_of_ZipB (by kernel_rfl) (by kernel_rfl)) (by kernel_rfl) (by kernel_rfl) (by kernel_rfl)
      (by rw [MakeChecks.laidMetH_plain _ _ _ tabs3_plain]; exact laidMet_laidAll _ (by kernel_rfl) (by kernel_rfl))) ?_
  intro W base args ds gs before hval0 hW hcnd _ hL _
  have hval : ∀ (j : Nat) t v, Tryz.f5.params[j]? = some t → args[j]? = some v → Value.okWide Tryz.prog W .any base t v := hval0
  refine law_post segmCut_laidOut Tryz.underlying4 rfl segmCut_spec rfl (by kernel_rfl) hW ?_
  obtain ⟨p, q, hA0, hV, rfl, hfz, hnd⟩ := hW
  have hA : DataW.TrodAll enc Tryz.prog W 0 (fun _ => true) true Tryz.f5.params.toList args.toList ds p := hA0
  rw [Tryz.params5] at hA hval
  obtain ⟨v0, vs0, d0, ds0, p0, q0, hargs, rfl, rfl, h0, r0⟩ := trodAll_cons hA
  obtain ⟨v1, vs1, d1, ds1, p1, q1, rfl, rfl, rfl, h1, r1⟩ := trodAll_cons r0
  obtain ⟨v2, vs2, d2, ds2, p2, q2, rfl, rfl, rfl, h2, r2⟩ := trodAll_cons r1
  obtain ⟨rfl, rfl, rfl⟩ := trodAll_nil r2
  obtain rfl : args = #[v0, v1, v2] := by cases args; simp_all
  have g0 := arg_t27 (hval 0 27 v0 rfl rfl) h0
  have g1 := arg_t34 (hval 1 34 v1 rfl rfl) h1
  have g2 := arg_t46 (hval 2 46 v2 rfl rfl) h2
  exact segmCut_law (tabs3_of_laid hL) g0 g1 g2
theorem segmCut_c_inPlace : (Rows.segmCutRow.inPlace == Tryz.prog.inPlace 5) = true := by kernel_rfl
theorem segmCut_c_unfollowed : (Rows.segmCutRow.unfollowed == Tryz.prog.unfollowed 5) = true := by kernel_rfl
theorem segmCut_c_recurses : (Rows.segmCutRow.recurses == Tryz.prog.recurses 5) = true := by kernel_rfl
theorem segmCut_c_named : (Rows.segmCutRow.named == Tryz.prog.varsNamed 5) = true := by kernel_rfl
theorem segmCut_c_lifted : (Rows.segmCutRow.lifted == Tryz.prog.liftsFinal) = true := clos_lifts
theorem segmCut_c_make : (Tryz.prog.make == some Rows.segmCutRow.make) = true := clos_make
theorem segmCut_c_plainKeys : (Rows.segmCutRow.plainKeys == Tryz.prog.plainKeys) = true := clos_plain
theorem segmCut_closed : joinedFacts Tryz.prog 5 Tryz.f5 Rows.segmCutSpec Rows.segmCutRow = true := by
  unfold joinedFacts
  rw [clos_laid, clos_rowed, clos_heard, clos_may, segmCut_c_inPlace, segmCut_c_unfollowed, segmCut_c_recurses, segmCut_c_named, segmCut_c_lifted, segmCut_c_make, segmCut_c_plainKeys]
  kernel_rfl
theorem segmCut_over : Rows.segmCutRow.holds Tryz.pinned (OpenSpec.ofChange Rows.segmCutSpec) :=
  OpenClaim.holds_of_wide 5 Tryz.f5 rfl rfl rfl rfl rfl rfl rfl ⟨rfl, rfl, rfl, rfl, rfl⟩ rfl rfl rfl rfl rfl (by kernel_rfl) Tryz.func5 segmCut_closed
    (of_decide_eq_true (by kernel_rfl)) (by unfold Func.isWrapper; first | (rw [if_pos (by decide +kernel)]; kernel_rfl) | (rw [if_neg (by decide +kernel)]; exact ⟨rfl, rfl⟩))
    (fun os started H enc _ => segmCut_lifted os started H enc)
theorem segmCut_holds : Rows.SegmCutSaid := segmCut_over
theorem segmCut_c_wft : Rows.segmCutRow.wfByText (OpenSpec.ofChange Rows.segmCutSpec) = true := by kernel_rfl
theorem segmCut_c_func : Tryz.prog.funcNamed Rows.segmCutRow.func = some 5 := by kernel_rfl
theorem segmCut_c_stand : ([27, 34, 46].all fun u => !Tryz.prog.wantsStandIn u) = true := by kernel_rfl
theorem segmCut_c_goes : false = Rows.segmCutRow.goesBy Tryz.prog := by kernel_rfl
theorem segmCutCard_holds : Rows.SegmCutCardSaid :=
  Claim7.holds_tied_plain_at .later [] [.data, .data, .pinned] true (true, "ff985d4a2c195d2b053ff752d8f9403905b3d56cfab988831be32c96f38effc7") true segmCut_holds (fun _ h => by cases h) segmCut_c_wft (fun _ h => by cases h) segmCut_row_tie rfl ⟨rfl, rfl⟩ clos_main rfl
    (fun f fn hf hfn => by
      obtain rfl : f = 5 := Option.some.inj (segmCut_c_func.symm.trans hf) |>.symm
      obtain rfl : fn = Tryz.f5 := (Option.some.inj (Tryz.func5.symm.trans hfn)).symm
      exact ⟨clos_looks, fun j t ht => by
        rw [Tryz.params5] at ht
        have hm : t ∈ [27, 34, 46] := by simpa using Array.mem_of_getElem? ht
        exact (show Tryz.prog.wantsStandIn t = false by simpa using List.all_eq_true.1 segmCut_c_stand t hm)⟩)
    segmCut_c_goes
end Go.Proofs.YtpemabgfmnhhnaaGreatDoor
