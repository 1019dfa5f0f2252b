/-
  rectwo (layer 17), the sixth part: Put, Get, Rewrite; the example.
-/
import Derived.Test.YtpemabgfmnhhnaaGreatDoorM5
import Derived.Test.YtpemabgfmnhhnaaGreatDoorM3
import Derived.Test.YtpemabgfmnhhnaaGreatDoorM4
import VxDev
import Derived.Test.YtpemabgfmnhhnaaGreatDoorM1
import Derived.Test.YtpemabgfmnhhnaaGreatDoorM2
import Derived.Lib.LaidTab
set_option linter.unusedSimpArgs false
set_option linter.unusedVariables false
namespace Go.Proofs.YtpemabgfmnhhnaaGreatDoor
open Go.Vx Go.ChangeShapes Go.WideShapes Go.ChangeAt Go.RowKit
theorem rone_s {G:GH} {x:Rc} {xv:Value} (hx:RcV G x xv) (hc:x.cmd.ok) (hl:x.fits) (hw:x.small) (hk:1 ≤ x.kind ∧ x.kind ≤ 4):Con Tryz.prog 57 #[.int .i64 1,xv] G [] (fun r G' μ'=>GH.le G G' ∧ Grow 5 1 r (encL x).length ((encL x).map (.int .u8 ·)) μ'):=by
  have q:=rrec_s hx hc hl hw hk
  obtain ⟨iv,rfl,hi⟩:=hx
  (refine v_enter Tryz.func57 rfl Tryz.ntmps57 rfl ?_;intro B _)
  repeat' (first|apply v_seq|apply v_region|apply v_nil|(apply v_pure;(case hop=>first|(apply p_move <;> rfl)|(apply p_ne <;> rfl)|(apply p_assign <;> rfl)|fail);(case hd=>rfl))|(apply v_cond;(case hc=>rfl);all_goals (intro h;(try simp only [reduceCtorEq,zzz] at h);first|(exfalso;omega)|skip))|(apply v_box (zs:=recL x.kind x.round x.node x.index x.cmd iv);(case hx=>rfl);(case hz=>rfl);(case hd=>rfl);intro xb)|(apply v_read;(case hop=>(apply r_loadNo;(case hx=>rfl);(case h=>(repeat (exact mhd _)));(case hd=>(repeat (first|with_reducible exact dt_nil|apply dt_here)));(case hn=>rfl)));(case hd=>rfl))|fail)
  refine v_call (μ1:=[]) (μ2:=_) rfl q (List.Perm.refl _) rfl ?_
  rintro r G1 ν1 - ⟨hle,hg⟩
  obtain ⟨A1,c1,rfl,-,-⟩:=hg.shape
  repeat' (first|apply v_nil|(apply v_pure;(case hop=>(apply p_assign <;> rfl));(case hd=>rfl))|fail)
  refine v_ret ν1 (outsA1 rfl rfl) (by repeat (exact List.sublist_append_left _ _)) ?_
  exact ⟨hle,hg⟩
theorem put1_s {G:GH} (hT:TabsG G) {x:Rc} {xv:Value} (hx:RcV G x xv) (hc:x.cmd.ok) (hl:¬ x.large) (hw:x.small):Con Tryz.prog 59 #[.int .i64 1,xv] G [] (EncR x):=by
  have q:=encode_s hT hx hc hl hw
  have qm:=vmay_s G 1
  rw [decide_eq_true (by omega)] at qm
  unfold EncR at *
  generalize (if olderI x = 0 then encL x else []) = L at *
  obtain ⟨iv,rfl,hi⟩:=hx
  (refine v_enter Tryz.func59 rfl Tryz.ntmps59 rfl ?_;intro B _)
  repeat' (first|apply v_seq|apply v_region|apply v_nil|apply v_block|(apply v_pure;(case hop=>first|(apply p_move <;> rfl)|(apply p_eqs <;> rfl)|(apply p_assign <;> rfl)|(apply p_not <;> rfl)|fail);(case hd=>rfl))|(apply v_condT;(case hc=>rfl))|(apply v_condF;(case hc=>rfl))|(apply v_box (zs:=recL x.kind x.round x.node x.index x.cmd iv);(case hx=>rfl);(case hz=>rfl);(case hd=>rfl);intro xb)|(apply v_callJ (hs:=qm);(case ha=>rfl);(case hd=>rfl))|(apply v_read;(case hop=>(apply r_loadNo;(case hx=>rfl);(case h=>(repeat (exact mhd _)));(case hd=>(repeat (first|with_reducible exact dt_nil|apply dt_here)));(case hn=>rfl)));(case hd=>rfl))|fail)
  refine v_call (μ1:=[]) (μ2:=_) rfl q (List.Perm.refl _) rfl ?_
  rintro r G1 ν1 - ⟨rfl,v,rfl,hg⟩
  repeat' (first|apply v_nil|(apply v_pure;(case hop=>first|(apply p_assign <;> rfl)|(apply p_extract0 <;> rfl)|(apply p_extract1 <;> rfl)|fail);(case hd=>rfl))|fail)
  refine v_ret [] (outsA2 rfl rfl rfl) (by repeat (exact List.nil_sublist _)) ?_
  exact ⟨rfl,_,rfl,hg⟩
theorem put2_s {G:GH} (hT:TabsG G) {x:Rc} {xv:Value} (hx:RcV G x xv) (hc:x.cmd.ok):Con Tryz.prog 59 #[.int .i64 2,xv] G [] (EncT x):=by
  have q:=encodeT_s hT hx hc
  have qm:=vmay_s G 2
  rw [decide_eq_true (by omega)] at qm
  unfold EncT at *
  generalize (if chkI x = 0 then encT x else []) = L at *
  obtain ⟨iv,rfl,hi⟩:=hx
  (refine v_enter Tryz.func59 rfl Tryz.ntmps59 rfl ?_;intro B _)
  repeat' (first|apply v_seq|apply v_region|apply v_nil|apply v_skip|apply v_block|apply v_blk|(apply v_pure;(case hop=>first|(apply p_move <;> rfl)|(apply p_eq <;> rfl)|(apply p_assign <;> rfl)|(apply p_not <;> rfl)|fail);(case hd=>rfl))|(apply v_condF;(case hc=>rfl))|(apply v_cond;(case hc=>rfl);all_goals (intro h;(try simp only [reduceCtorEq,zzz] at h);first|(exfalso;omega)|skip))|(apply v_box (zs:=recL x.kind x.round x.node x.index x.cmd iv);(case hx=>rfl);(case hz=>rfl);(case hd=>rfl);intro xb)|(apply v_callJ (hs:=qm);(case ha=>rfl);(case hd=>rfl))|(apply v_read;(case hop=>(apply r_loadNo;(case hx=>rfl);(case h=>(repeat (exact mhd _)));(case hd=>(repeat (first|with_reducible exact dt_nil|apply dt_here)));(case hn=>rfl)));(case hd=>rfl))|fail)
  refine v_call (μ1:=[]) (μ2:=_) rfl q (List.Perm.refl _) rfl ?_
  rintro r G1 ν1 - ⟨rfl,v,rfl,hg⟩
  repeat' (first|apply v_nil|(apply v_pure;(case hop=>first|(apply p_assign <;> rfl)|(apply p_extract0 <;> rfl)|(apply p_extract1 <;> rfl)|fail);(case hd=>rfl))|fail)
  refine v_ret [] (outsA2 rfl rfl rfl) (by repeat (exact List.nil_sublist _)) ?_
  exact ⟨rfl,_,rfl,hg⟩
theorem putN_s {G:GH} {f:Int} (hf:¬ (f = 1 ∨ f = 2)) {x:Rc} {xv:Value} (hx:RcV G x xv):Con Tryz.prog 59 #[.int .i64 f,xv] G [] (Just (.tuple [.slice none 0 0,.int .i64 8].toArray) G):=by
  have qm:=vmay_s G f
  rw [decide_eq_false hf] at qm
  obtain ⟨iv,rfl,hi⟩:=hx
  apply Con.just
  (refine v_enter Tryz.func59 rfl Tryz.ntmps59 rfl ?_;intro B _)
  repeat' (first|apply v_seq|apply v_region|apply v_nil|apply v_block|(apply v_pure;(case hop=>first|(apply p_move <;> rfl)|(apply p_assign <;> rfl)|(apply p_not <;> rfl)|fail);(case hd=>rfl))|(apply v_condT;(case hc=>rfl))|(apply v_box (zs:=recL x.kind x.round x.node x.index x.cmd iv);(case hx=>rfl);(case hz=>rfl);(case hd=>rfl);intro xb)|(apply v_callJ (hs:=qm);(case ha=>rfl);(case hd=>rfl))|fail)
  refine v_ret [] (outsA2 rfl rfl rfl) (by repeat (exact List.nil_sublist _)) ?_
  exact ⟨rfl,rfl⟩
theorem get1_s {G:GH} (hT:TabsG G) {l:List Int} {bv:Value} (hs:Sl G 1 (IntR .u8) bv l) (hl:l.length ≤ 1048000):Con Tryz.prog 107 #[.int .i64 1,bv] G [] (DecR (some l)):=by
  have q:=rdecode_s hT hs hl
  have qm:=vmay_s G 1
  rw [decide_eq_true (by omega)] at qm
  unfold DecR at *
  generalize decOk (some l) = OK at *
  generalize decX (some l) = X at *
  obtain ⟨A0,c0,rfl,-⟩:=id hs.openInt
  (refine v_enter Tryz.func107 rfl Tryz.ntmps107 rfl ?_;intro B _)
  repeat' (first|apply v_seq|apply v_region|apply v_nil|apply v_block|(apply v_pure;(case hop=>first|(apply p_move <;> rfl)|(apply p_eqs <;> rfl)|(apply p_assign <;> rfl)|(apply p_not <;> rfl)|fail);(case hd=>rfl))|(apply v_condT;(case hc=>rfl))|(apply v_condF;(case hc=>rfl))|(apply v_callJ (hs:=qm);(case ha=>rfl);(case hd=>rfl))|(apply v_alloc;(case hz=>rfl);(case hd=>rfl);intro b)|fail)
  refine v_call (μ1:=[]) (μ2:=_) rfl q (List.Perm.refl _) rfl ?_
  rintro r G1 ν1 - ⟨rfl,x,v,e,rfl,hx,hcase⟩
  obtain ⟨iv,rfl,hi⟩:=id hx
  obtain ⟨A1,c1,rfl,-⟩:=hi.openInt
  unfold recL
  repeat' (first|apply v_nil|(apply v_pure;(case hop=>first|(apply p_assign <;> rfl)|(apply p_extract0 <;> rfl)|(apply p_extract1 <;> rfl)|fail);(case hd=>rfl))|(apply v_store;(case hp=>rfl);(case hx=>rfl);(case hc=>rfl);(case hsz=>rfl);(case h1=>rfl);(case hb=>(repeat (exact mhd _)));(case hfit=>exact nle rfl);(case hov=>((repeat (first|with_reducible exact ov_nil|apply ov_cons));done));(case hu=>repeat (exact Upd.here _ _)))|fail)
  refine v_retM [] (outsM_cell_tmp (vs:=recL x.kind x.round x.node x.index x.cmd (.slice A1 x.image.length c1)) (e:=42) rfl rfl rfl (by repeat (exact mhd _)) rfl) (by repeat (exact List.nil_sublist _)) ?_
  exact ⟨rfl,x,_,e,rfl,hx,hcase⟩
theorem get2_s {G:GH} (hT:TabsG G) {l:List Int} {bv:Value} (hs:Sl G 1 (IntR .u8) bv l) (hl:l.length ≤ 1048000):Con Tryz.prog 107 #[.int .i64 2,bv] G [] (DecT (some l)):=by
  have q:=tdecode_s hT hs hl
  have qm:=vmay_s G 2
  rw [decide_eq_true (by omega)] at qm
  unfold DecT at *
  generalize decTOk (some l) = OK at *
  generalize decT (some l) = X at *
  obtain ⟨A0,c0,rfl,-⟩:=id hs.openInt
  (refine v_enter Tryz.func107 rfl Tryz.ntmps107 rfl ?_;intro B _)
  repeat' (first|apply v_seq|apply v_region|apply v_nil|apply v_skip|apply v_block|apply v_blk|(apply v_pure;(case hop=>first|(apply p_move <;> rfl)|(apply p_eq <;> rfl)|(apply p_assign <;> rfl)|(apply p_not <;> rfl)|fail);(case hd=>rfl))|(apply v_condF;(case hc=>rfl))|(apply v_cond;(case hc=>rfl);all_goals (intro h;(try simp only [reduceCtorEq,zzz] at h);first|(exfalso;omega)|skip))|(apply v_callJ (hs:=qm);(case ha=>rfl);(case hd=>rfl))|(apply v_alloc;(case hz=>rfl);(case hd=>rfl);intro b)|fail)
  refine v_call (μ1:=[]) (μ2:=_) rfl q (List.Perm.refl _) rfl ?_
  rintro r G1 ν1 - ⟨rfl,x,v,e,rfl,hx,hcase⟩
  obtain ⟨iv,rfl,hi⟩:=id hx
  obtain ⟨A1,c1,rfl,-⟩:=hi.openInt
  unfold recL
  repeat' (first|apply v_nil|(apply v_pure;(case hop=>first|(apply p_assign <;> rfl)|(apply p_extract0 <;> rfl)|(apply p_extract1 <;> rfl)|fail);(case hd=>rfl))|(apply v_store;(case hp=>rfl);(case hx=>rfl);(case hc=>rfl);(case hsz=>rfl);(case h1=>rfl);(case hb=>(repeat (exact mhd _)));(case hfit=>exact nle rfl);(case hov=>((repeat (first|with_reducible exact ov_nil|apply ov_cons));done));(case hu=>repeat (exact Upd.here _ _)))|fail)
  refine v_retM [] (outsM_cell_tmp (vs:=recL x.kind x.round x.node x.index x.cmd (.slice A1 x.image.length c1)) (e:=42) rfl rfl rfl (by repeat (exact mhd _)) rfl) (by repeat (exact List.nil_sublist _)) ?_
  exact ⟨rfl,x,_,e,rfl,hx,hcase⟩
theorem getN_s {G:GH} {f:Int} (hf:¬ (f = 1 ∨ f = 2)) (bv:Value):Con Tryz.prog 107 #[.int .i64 f,bv] G [] (Just (.tuple [.agg zeroRL.toArray,.int .i64 8].toArray) G):=by
  have qm:=vmay_s G f
  rw [decide_eq_false hf] at qm
  apply Con.just
  (refine v_enter Tryz.func107 rfl Tryz.ntmps107 rfl ?_;intro B _)
  repeat' (first|apply v_seq|apply v_region|apply v_nil|apply v_block|(apply v_pure;(case hop=>first|(apply p_move <;> rfl)|(apply p_assign <;> rfl)|(apply p_not <;> rfl)|(apply p_build;(case hz=>rfl);(case hv=>(simp only [List.map_cons,List.map_nil];repeat (with_reducible exact evs_nil)));(case hb=>(apply bldL;repeat (exact bld_nil))))|fail);(case hd=>rfl))|(apply v_condT;(case hc=>rfl))|(apply v_callJ (hs:=qm);(case ha=>rfl);(case hd=>rfl))|(apply v_alloc;(case hz=>rfl);(case hd=>rfl);intro b)|(apply v_store;(case hp=>rfl);(case hx=>rfl);(case hc=>rfl);(case hsz=>rfl);(case h1=>rfl);(case hb=>(repeat (exact mhd _)));(case hfit=>exact nle rfl);(case hov=>((repeat (first|with_reducible exact ov_nil|apply ov_cons));done));(case hu=>repeat (exact Upd.here _ _)))|fail)
  refine v_retM [] (outsM_cell_tmp (vs:=zeroRL) (e:=42) rfl rfl rfl (by repeat (exact mhd _)) rfl) (by repeat (exact List.nil_sublist _)) ?_
  exact ⟨rfl,rfl⟩
theorem vb_wf2 {n:Int} (h:n ≤ 9223372036854775807):∀ x ∈ vbytes n,(Lit.int .u8 x).wf = true:=vbytes_wf h
theorem encL_ok {x:Rc} (h0:olderI x = 0) (hc:x.cmd.ok) (hi:∀ y ∈ x.image,(Lit.int .u8 y).wf = true):(encL x).length ≤ 50000 ∧ ∀ y ∈ encL x,(Lit.int .u8 y).wf = true:=by
  obtain ⟨hf,hsm,him,hsz⟩:=fits0 (older0 h0).1
  unfold Rc.small at hsm
  have hh:=headL_len x
  have hwh:∀ y ∈ headL x,(Lit.int .u8 y).wf = true:=by
    unfold headL
    rw [List.nil_append]
    exact memwf (memwf (memwf (vb_wf2 hsm.1) (vb_wf2 hsm.2.1)) (vb_wf2 hsm.2.2.1)) (vb_wf2 hsm.2.2.2)
  have hk:x.cmd.kind ≤ 9223372036854775807:=by
    have:=hc.1
    simp [Lit.wf,IntKind.min,IntKind.max,IntKind.signed,IntKind.bits] at this
    omega
  have h4:=(vbytes_len x.cmd.kind).1
  have h5:=putL_len x.cmd (by omega) (by omega) (by omega) 6
  have h6:=(vbytes_len (x.image.length:Nat)).1
  unfold encL
  split
  · exact ⟨by rw [List.length_append,List.length_append];omega,memwf (memwf hwh (vb_wf2 hk)) (putW_wf hc (by omega) (by omega) (by omega) 6)⟩
  · split
    · exact ⟨by rw [List.length_append,List.length_append];omega,memwf (memwf hwh (vb_wf2 (by omega))) hi⟩
    · exact ⟨by omega,hwh⟩
theorem encT_ok {x:Rc} (h0:chkI x = 0) (hc:x.cmd.ok) (hi:∀ y ∈ x.image,(Lit.int .u8 y).wf = true):(encT x).length ≤ 50000 ∧ ∀ y ∈ encT x,(Lit.int .u8 y).wf = true:=by
  obtain ⟨hf,hsm,him,hsz⟩:=fits0 (show recI x.kind x.round x.node x.index x.cmd x.image.length = 0 from h0)
  have hkk:=(rec0 (show recI x.kind x.round x.node x.index x.cmd x.image.length = 0 from h0)).1
  have ht:=tailT_len hf
  have h1:=(vbytes_len (x.kind + 16)).1
  unfold Rc.small at hsm
  have hk:x.cmd.kind ≤ 9223372036854775807:=by
    have:=hc.1
    simp [Lit.wf,IntKind.min,IntKind.max,IntKind.signed,IntKind.bits] at this
    omega
  have hn:∀ y ∈ ([]:List Int),(Lit.int .u8 y).wf = true:=fun y hy=>by cases hy
  refine ⟨by unfold encT;rw [List.length_append];omega,?_⟩
  unfold encT tailT
  refine memwf (vb_wf2 (by omega)) (memwf (memwf (memwf ?_ ?_) ?_) ?_)
  · split
    · exact memwf (vb_wf2 hsm.2.1) (vb_wf2 hsm.2.2.1)
    · exact hn
  · split
    · exact hn
    · exact vb_wf2 hsm.2.2.2
  · split
    · exact memwf (vb_wf2 hk) (putW_wf hc (by omega) (by omega) (by omega) 6)
    · exact hn
  · split
    · exact memwf (vb_wf2 (by omega)) hi
    · exact hn
theorem first_s {G:GH} (hC:CrcG G) (f n:Int) (hf:f ≤ 9223372036854775807) (hn:n ≤ 9223372036854775807):Con Tryz.prog 50 #[.int .i64 f,.int .i64 n] G [] (fun r G' μ'=>Grow 5 1 r (frB (vbytes f ++ vbytes n)).length ((frB (vbytes f ++ vbytes n)).map (.int .u8 ·)) μ'):=by
  have h1:=vbytes_len f
  have h2:=vbytes_len n
  (refine v_enter Tryz.func50 rfl Tryz.ntmps50 rfl ?_;intro B _)
  repeat' (first|apply v_seq|apply v_region|apply v_nil|(apply v_pure;(case hop=>first|(apply p_move <;> rfl)|(apply p_assign <;> rfl)|(apply p_build;(case hz=>rfl);(case hv=>(simp only [List.map_cons,List.map_nil];repeat (with_reducible exact evs_nil)));(case hb=>(apply bldL;repeat (exact bld_nil)))));(case hd=>rfl))|(apply v_box;(case hx=>rfl);(case hz=>rfl);(case hd=>rfl);intro b)|fail)
  refine v_call (μ1:=[(b,_)]) rfl (wnumber_s b f (l:=[]) (sv:=.slice none 0 0) Sl.nil (by simp) hf) (List.Perm.refl _) rfl ?_
  rintro _ G1 _ hle1 ⟨v1,rfl,s1⟩
  repeat' (first|apply v_seq|apply v_region|apply v_nil|(apply v_pure;(case hop=>(apply p_move <;> rfl));(case hd=>rfl))|fail)
  refine v_call (μ1:=[(b,_)]) rfl (wnumber_s b n s1 (by simp;omega) hn) (List.Perm.refl _) rfl ?_
  rintro _ G2 _ hle2 ⟨v2,rfl,s2⟩
  repeat' (first|apply v_seq|apply v_region|apply v_nil|(apply v_pure;(case hop=>(apply p_move <;> rfl));(case hd=>rfl))|fail)
  refine v_call (μ1:=[(b,_)]) rfl (wbytes_s b s2 (by simp;omega)) (List.Perm.refl _) rfl ?_
  rintro r3 G3 _ hle3 ⟨rfl,s3⟩
  have hl:(([]:List Int) ++ vbytes f ++ vbytes n).length ≤ 22:=by simp;omega
  have hl1:1 ≤ (([]:List Int) ++ vbytes f ++ vbytes n).length:=by simp;omega
  obtain ⟨A3,c3,rfl,-⟩:=s3.openInt
  have h0:addNo (([]:List Int) ++ vbytes f ++ vbytes n).length = 0:=addNo0.2 (by omega)
  repeat' (fail)
  refine v_call (μ1:=[]) rfl (faddO_s (hC.le (GH.le_trans hle1 (GH.le_trans hle2 hle3))) s3 (by omega) h0) (List.Perm.refl _) rfl ?_
  rintro _ G4 ν4 hle4 ⟨v4,rfl,g4⟩
  rw [List.nil_append] at g4
  obtain ⟨A4,c4,rfl,-,-⟩:=g4.shape
  repeat' (first|apply v_seq|apply v_region|apply v_nil|(apply v_pure;(case hop=>first|(apply p_move <;> rfl)|(apply p_assign <;> rfl)|(apply p_extract0 <;> rfl)|(apply p_extract1 <;> rfl)|fail);(case hd=>rfl))|fail)
  refine v_drop (ν:=ν4) (List.sublist_append_left _ _) ?_
  refine v_ret ν4 (outsA1 rfl rfl) (List.Sublist.refl _) g4
def encF (f:Int) (x:Rc):List Int:=if f = 1 then encL x else encT x
noncomputable def errF (f:Int) (x:Rc):Int:=if f = 1 ∨ f = 2 then hasI f x else 8
theorem errF1 (x:Rc):errF 1 x = olderI x:=by unfold errF;rw [if_pos (.inl rfl)];exact hasI_one x
theorem errF2 (x:Rc):errF 2 x = chkI x:=by unfold errF;rw [if_pos (.inr rfl)];exact hasI_two x
theorem errFN {f:Int} (h:¬ (f = 1 ∨ f = 2)) (x:Rc):errF f x = 8:=by unfold errF;rw [if_neg h]
theorem encF_one {f:Int} {x:Rc}:1 ≤ (encF f x).length:=by
  unfold encF
  split
  · have h1:=(vbytes_len x.kind).2
    have h2:1 ≤ (headL x).length:=by
      unfold headL
      simp only [List.length_append]
      omega
    unfold encL
    split
    · simp only [List.length_append];omega
    · split
      · simp only [List.length_append];omega
      · exact h2
  · have:=(vbytes_len (x.kind + 16)).2
    unfold encT
    simp
    omega
theorem encF_ok {f:Int} {x:Rc} (h0:errF f x = 0) (hc:x.cmd.ok) (hi:wfL x.image):(encF f x).length ≤ 50000 ∧ wfL (encF f x):=by
  by_cases h1:f = 1
  · subst h1
    rw [errF1] at h0
    unfold encF
    rw [if_pos rfl]
    exact encL_ok h0 hc hi
  · by_cases h2:f = 2
    · subst h2
      rw [errF2] at h0
      unfold encF
      rw [if_neg (by decide)]
      exact encT_ok h0 hc hi
    · rw [errFN (by omega)] at h0
      cases h0
theorem putF_s {G:GH} (hT:TabsG G) (f:Int) {x:Rc} {xv:Value} (hx:RcV G x xv) (hc:x.cmd.ok) (hl:¬ x.large) (hw:x.small):Con Tryz.prog 59 #[.int .i64 f,xv] G [] (fun r G' μ'=>μ' = [] ∧ ∃ v,r = .tuple [v,.int .i64 (errF f x)].toArray ∧ Sl G' 1 (IntR .u8) v (if errF f x = 0 then encF f x else [])):=by
  by_cases h1:f = 1
  · subst h1
    rw [errF1]
    exact put1_s hT hx hc hl hw
  · by_cases h2:f = 2
    · subst h2
      rw [errF2]
      exact put2_s hT hx hc
    · rw [errFN (by omega)]
      refine (putN_s (by omega) hx).mono ?_
      rintro r G' μ' ⟨rfl,rfl,rfl⟩
      exact ⟨rfl,_,rfl,by rw [if_neg (by decide)];exact Sl.nil⟩
def AddS (f:Int) (x:Rc) (r:Value) (G':GH) (μ':OH):Prop:=μ' = [] ∧ ∃ v,r = .tuple [v,.int .i64 (errF f x)].toArray ∧ Sl G' 1 (IntR .u8) v (if errF f x = 0 then frB (encF f x) else [])
theorem sadd_s {G:GH} (hT:TabsG G) (hC:CrcG G) (f:Int) {x:Rc} {xv:Value} (hx:RcV G x xv) (hc:x.cmd.ok) (hl:¬ x.large) (hw:x.small):Con Tryz.prog 19 #[.int .i64 f,xv] G [] (AddS f x):=by
  have q1:=putF_s hT f hx hc hl hw
  have hx0:=id hx
  obtain ⟨iv,rfl,hi⟩:=hx
  obtain ⟨A,c,rfl,-,-,-,-,hwf⟩:=id hi.openInt
  have hok:=fun h=>encF_ok (f:=f) (x:=x) h hc hwf
  have h1:=encF_one (f:=f) (x:=x)
  unfold AddS
  generalize errF f x = e at *
  generalize encF f x = el at *
  (refine v_enter Tryz.func19 rfl Tryz.ntmps19 rfl ?_;intro B _)
  repeat' (first|apply v_seq|apply v_region|apply v_nil|(apply v_pure;(case hop=>first|(apply p_move <;> rfl)|(apply p_assign <;> rfl)|fail);(case hd=>rfl))|(apply v_read;(case hop=>(apply r_loadNo;(case hx=>rfl);(case h=>(repeat (exact mhd _)));(case hd=>(repeat (first|with_reducible exact dt_nil|apply dt_here)));(case hn=>rfl)));(case hd=>rfl))|(apply v_box;(case hx=>rfl);(case hz=>rfl);(case hd=>rfl);intro b)|fail)
  refine v_call (μ1:=[]) rfl q1 (List.Perm.refl _) rfl ?_
  rintro _ G1 _ hle1 ⟨rfl,v1,rfl,s1⟩
  by_cases he:e = 0
  · subst he
    rw [if_pos rfl] at s1
    obtain ⟨ho1,ho2⟩:=hok rfl
    have h0:addNo el.length = 0:=addNo0.2 (by omega)
    obtain ⟨A1,c1,rfl,-⟩:=s1.openInt
    repeat' (first|apply v_seq|apply v_region|apply v_nil|apply v_skip|(apply v_pure;(case hop=>first|(apply p_move <;> rfl)|(apply p_nes <;> rfl)|(apply p_assign <;> rfl)|(apply p_extract0 <;> rfl)|(apply p_extract1 <;> rfl)|fail);(case hd=>rfl))|(apply v_condF;(case hc=>rfl))|fail)
    refine v_call (μ1:=[]) rfl (fadd_s (hC.le hle1) s1 (by omega)) (List.Perm.refl _) rfl ?_
    rintro _ G2 _ hle2 ⟨rfl,v2,rfl,s2⟩
    rw [if_pos h0] at s2
    rw [h0]
    obtain ⟨A2,c2,rfl,-⟩:=s2.openInt
    repeat' (first|apply v_nil|(apply v_pure;(case hop=>first|(apply p_assign <;> rfl)|(apply p_extract0 <;> rfl)|(apply p_extract1 <;> rfl)|fail);(case hd=>rfl))|fail)
    refine v_ret [] (outsA2 rfl rfl rfl) (by repeat (exact List.nil_sublist _)) ?_
    exact ⟨rfl,_,rfl,by rw [if_pos rfl];exact s2⟩
  · rw [if_neg he] at s1
    obtain ⟨A1,c1,rfl,-⟩:=s1.openInt
    repeat' (first|apply v_seq|apply v_region|apply v_nil|(apply v_pure;(case hop=>first|(apply p_move <;> rfl)|(apply p_ne <;> rfl)|(apply p_assign <;> rfl)|(apply p_extract0 <;> rfl)|(apply p_extract1 <;> rfl)|fail);(case hd=>rfl))|(apply v_cond;(case hc=>rfl);all_goals (intro h;(try simp only [reduceCtorEq,zzz] at h);first|(exfalso;omega)|skip))|fail)
    refine v_ret [] (outsA2 rfl rfl rfl) (by repeat (exact List.nil_sublist _)) ?_
    exact ⟨rfl,_,rfl,by rw [if_neg he];exact Sl.nil⟩
theorem neBoolT {σ:Env} {ty t t':TypeId} {a b:Operand} {x y:Bool} [Ty Tryz.prog t .bool] (h:¬ x = y) (hx:Env.ev σ a = some (.bool x)) (hy:Env.ev σ b = some (.bool y)):PureOp Tryz.prog (.binOp .neq t a b t') ty σ (.bool true):=by
  have:=p_neB (P:=Tryz.prog) (t:=t) (t':=t') (ty:=ty) hx hy
  have e:(x == y) = false:=by simpa using h
  rwa [e] at this
theorem rCheckNo_s {G:GH} {H:Hd} {L:List Value} (hh:HdV G H L) (hno:¬ CheckP H):Con Tryz.prog 14 #[.agg L.toArray] G [] (Just (.bool false) G):=by
  obtain ⟨iv,av,cv,rfl,hi,ha,hc⟩:=hh
  have qa:=refEntCheck_s ha
  have qc:=refEntCheck_s hc
  have qm:=refMay_s G H.pr H.pn
  unfold CheckP at hno
  generalize hI1:chkK H.acc 0 = I1 at *
  generalize hI2:chkK H.cho 0 = I2 at *
  generalize hmb:decide (mayP H.pr H.pn) = mb at *
  obtain ⟨A0,c0,rfl,hl0,hm0,-⟩:=hi.openInt
  obtain ⟨A1,c1,rfl,hl1,hm1,hs1,hcp1,hcb1,-,-⟩:=esOpen ha
  obtain ⟨A2,c2,rfl,hl2,hm2,hs2,hcp2,hcb2,-,-⟩:=esOpen hc
  simp only [maxLen] at hm0 hm1 hm2
  apply Con.just
  (refine v_enter Tryz.func14 rfl Tryz.ntmps14 rfl ?_;intro B _)
  by_cases hiff:(0 < H.base ↔ 0 < H.image.length)
  rotate_left
  · have hbi:¬ dec (0 < H.base) = dec (0 < (H.image.length:Int)):=by
      rw [dec_eq,dec_eq,decide_eq_decide]
      exact fun h=>hiff ⟨fun k=>by have:=h.1 k;omega,fun k=>h.2 (by omega)⟩
    repeat' (first|(apply v_pure;(case hop=>(apply neBoolT (h:=hbi);(case hx=>rfl);(case hy=>rfl)));(case hd=>rfl))|apply v_seq|apply v_region|apply v_nil|(apply v_take;(case hg=>rfl))|(apply v_pass;(case hg=>rfl);(case hn=>rfl);(case hd=>rfl))|(apply v_pure;(case hop=>first|(apply p_move <;> rfl)|(apply p_lt <;> rfl)|(apply p_gt <;> rfl)|(apply p_assign <;> rfl)|(apply p_pickT <;> rfl)|(apply p_pickF <;> rfl)|(apply p_not <;> rfl)|(apply p_lenSlice <;> rfl)|(apply p_fieldAddrB <;> rfl)|fail);(case hd=>rfl))|(apply v_condT;(case hc=>rfl))|(apply v_guardB;(case h1=>rfl);(case h2=>rfl);all_goals (intro h;(try simp only [reduceCtorEq,zzz] at h)))|(apply v_callJ (hs:=qm);(case ha=>rfl);(case hd=>rfl))|(apply v_read;(case hop=>first|(apply r_loadNo;(case hx=>rfl);(case h=>(repeat (exact mhd _)));(case hd=>(repeat (first|with_reducible exact dt_nil|apply dt_here)));(case hn=>rfl))|(apply r_load1;rfl;(apply Cell.own;(case h=>(repeat (exact mhd _)));rfl))|fail);(case hd=>rfl))|(apply v_box;(case hx=>rfl);(case hz=>rfl);(case hd=>rfl);intro b)|fail)
    all_goals
      (refine v_ret [] (outsA1 rfl rfl) (by repeat (exact List.nil_sublist _)) ?_
       exact ⟨rfl,rfl⟩)
  have hbi:dec (0 < H.base) = dec (0 < (H.image.length:Int)):=by
    rw [dec_eq,dec_eq]
    congr 1
    rw [eq_iff_iff]
    omega
  repeat' (first|(apply v_pure;(case hop=>(apply neBoolF (h:=hbi);(case hx=>rfl);(case hy=>rfl)));(case hd=>rfl))|apply v_seq|apply v_region|apply v_nil|apply v_skip|apply v_block|(apply v_take;(case hg=>rfl))|(apply v_pass;(case hg=>rfl);(case hn=>rfl);(case hd=>rfl))|(apply v_pure;(case hop=>first|(apply p_move <;> rfl)|(apply p_lt <;> rfl)|(apply p_gt <;> rfl)|(apply p_ne <;> rfl)|(apply p_assign <;> rfl)|(apply p_pickT <;> rfl)|(apply p_pickF <;> rfl)|(apply p_not <;> rfl)|(apply p_lenSlice <;> rfl)|(apply p_fieldAddrB <;> rfl)|fail);(case hd=>rfl))|(apply v_condT;(case hc=>rfl))|(apply v_cond;(case hc=>rfl);all_goals (intro h;(try simp only [reduceCtorEq,zzz] at h)))|(apply v_guardB;(case h1=>rfl);(case h2=>rfl);all_goals (intro h;(try simp only [reduceCtorEq,zzz] at h)))|(apply v_callJ (hs:=qm);(case ha=>rfl);(case hd=>rfl))|(apply v_callJ (hs:=qa);(case ha=>rfl);(case hd=>rfl))|(apply v_callJ (hs:=qc);(case ha=>rfl);(case hd=>rfl))|(apply v_read;(case hop=>first|(apply r_loadNo;(case hx=>rfl);(case h=>(repeat (exact mhd _)));(case hd=>(repeat (first|with_reducible exact dt_nil|apply dt_here)));(case hn=>rfl))|(apply r_load1;rfl;(apply Cell.own;(case h=>(repeat (exact mhd _)));rfl))|fail);(case hd=>rfl))|(apply v_box;(case hx=>rfl);(case hz=>rfl);(case hd=>rfl);intro b)|fail)
  iterate 6
    · refine v_ret [] (outsA1 rfl rfl) (by repeat (exact List.nil_sublist _)) ?_
      exact ⟨rfl,rfl⟩
  have hmay:mayP H.pr H.pn:=of_decide_eq_true (hmb.trans (by assumption))
  rename Nat=>hb'
  refine v_loop [3,1] (fun us G' μ'=>G' = G ∧ μ' = [(hb',hardO (hdL H.pr H.pn H.base (.slice A0 H.image.length c0) (.slice A1 H.acc.length c1) (.slice A2 H.cho.length c2)))] ∧ ∃ k,k ≤ H.acc.length ∧ us = [Value.int .i64 (k:Nat),.pointer (some ⟨hb',0,none⟩)] ∧ ∀ i (h:i < H.acc.length),i < k → H.base < (H.acc[i]).index ∧ (H.acc[i]).round ≠ 0 ∧ ¬ lessP H.pr H.pn (H.acc[i]).round (H.acc[i]).node) (fun us=>H.acc.length - (headI us).toNat) rfl ⟨rfl,rfl,0,by omega,rfl,by omega⟩ ?_
  rintro us G' μ' ⟨rfl,rfl,k,hk,rfl,hall⟩
  by_cases hlt:k < H.acc.length
  · have e1:((k:Nat):Int).toNat = k:=by omega
    have kc0:GH.cell? G' (((adr A1).add (k * 10)).add 0) = some (.int .i64 (H.acc[k]).index):=(hcp1 k hlt).cell (j:=0) rfl
    have kc1:=hcb1 k hlt
    have hnext:H.base < (H.acc[k]).index ∧ (H.acc[k]).round ≠ 0 ∧ ¬ lessP H.pr H.pn (H.acc[k]).round (H.acc[k]).node → ∀ i (h:i < H.acc.length),i < k + 1 → H.base < (H.acc[i]).index ∧ (H.acc[i]).round ≠ 0 ∧ ¬ lessP H.pr H.pn (H.acc[i]).round (H.acc[i]).node:=fun hh i hi hik=>by
      by_cases e:i = k
      · subst e;exact hh
      · exact hall i hi (by omega)
    generalize hxe:H.acc[k] = e at *
    have ql:=refLess_s G' H.pr H.pn e.round e.node
    generalize hlb:decide (lessP H.pr H.pn e.round e.node) = lb at *
    have hA:=hs1 (by omega)
    repeat' (first|apply v_seq|apply v_region|apply v_nil|apply v_skip|apply v_block|(apply v_pure;(case hop=>first|(apply p_move <;> rfl)|(apply p_lt <;> rfl)|(apply p_lenSlice <;> rfl)|(apply p_fieldAddrB <;> rfl)|(apply p_fieldAddr <;> rfl)|(apply p_indexAddrS;(case hx=>rfl);(case hi=>rfl);(case h0=>omega);(case h=>omega);(case hA=>assumption))|fail);(case hd=>rfl))|(apply v_cond;(case hc=>rfl);all_goals (intro h;(try simp only [reduceCtorEq,zzz] at h);first|(exfalso;omega)|skip))|(apply v_read;(case hop=>(apply r_loadN;rfl;exact CellsAt.frozen kc1;rfl));(case hd=>rfl))|(apply v_read;(case hop=>(apply r_load1;rfl;(apply Cell.own;(case h=>(repeat (exact mhd _)));rfl)));(case hd=>rfl))|(apply v_alloc;(case hz=>rfl);(case hd=>rfl);intro b)|(apply v_store;(case hp=>rfl);(case hx=>rfl);(case hc=>rfl);(case hsz=>rfl);(case h1=>rfl);(case hb=>(repeat (exact mhd _)));(case hfit=>exact nle rfl);(case hov=>((repeat (first|with_reducible exact ov_nil|apply ov_cons));done));(case hu=>repeat (exact Upd.here _ _)))|fail)
    refine d_start _ (by kernel_rfl) (by kernel_rfl) (by kernel_rfl) (fun _ he=>he) ?_
    all_goals (apply dtk 0;(case hi=>rfl);(case hop=>(apply prd;apply p_fieldAddrB <;> rfl));(case hq=>kernel_rfl))
    all_goals (apply dtk 1;(case hi=>rfl);(case hop=>(apply r_load1;rfl;(apply Cell.own;(case h=>(repeat (first|exact mhd _|apply mtl)));rfl)));(case hq=>kernel_rfl))
    all_goals (apply dtk 2;(case hi=>rfl);(case hop=>(apply prd;apply p_move <;> rfl));(case hq=>kernel_rfl))
    all_goals (apply dtk 3;(case hi=>rfl);(case hop=>(apply prd;apply p_indexAddrS;(case hx=>rfl);(case hi=>rfl);(case h0=>omega);(case h=>omega);(case hA=>assumption)));(case hq=>kernel_rfl))
    all_goals (apply dtk 4;(case hi=>rfl);(case hop=>(apply prd;apply p_fieldAddr <;> rfl));(case hq=>kernel_rfl))
    all_goals (apply dtk 5;(case hi=>rfl);(case hop=>((apply r_load1;rfl;exact Cell.frozen kc0)));(case hq=>kernel_rfl))
    all_goals (apply dtk 6;(case hi=>rfl);(case hop=>(apply prd;apply p_fieldAddrB <;> rfl));(case hq=>kernel_rfl))
    all_goals (apply dtk 7;(case hi=>rfl);(case hop=>(apply r_load1;rfl;(apply Cell.own;(case h=>(repeat (first|exact mhd _|apply mtl)));rfl)));(case hq=>kernel_rfl))
    all_goals (apply dtk 8;(case hi=>rfl);(case hop=>(apply prd;apply p_le <;> rfl));(case hq=>kernel_rfl))
    all_goals (apply dtk 9;(case hi=>rfl);(case hop=>(apply prd;apply p_move <;> rfl));(case hq=>kernel_rfl))
    all_goals (try (apply d_guardB 10;(case hi=>rfl);(case hgd=>rfl);(case h1=>rfl);(case h2=>rfl);all_goals (intro h;(try simp only [reduceCtorEq,zzz] at h))))
    all_goals (first|(apply dpa 10;(case hi=>rfl);(case hg=>rfl);(case hn=>rfl);(case hq=>kernel_rfl))|(apply dtg 10;(case hi=>rfl);(case hg=>rfl);(case hop=>(apply prd;apply p_fieldAddrB <;> rfl));(case hq=>kernel_rfl))|fail)
    all_goals (try (apply d_guardB 11;(case hi=>rfl);(case hgd=>rfl);(case h1=>rfl);(case h2=>rfl);all_goals (intro h;(try simp only [reduceCtorEq,zzz] at h))))
    all_goals (first|(apply dpa 11;(case hi=>rfl);(case hg=>rfl);(case hn=>rfl);(case hq=>kernel_rfl))|(apply dtg 11;(case hi=>rfl);(case hg=>rfl);(case hop=>(apply r_load1;rfl;(apply Cell.own;(case h=>(repeat (exact mhd _)));rfl)));(case hq=>kernel_rfl))|fail)
    all_goals (try (apply d_guardB 12;(case hi=>rfl);(case hgd=>rfl);(case h1=>rfl);(case h2=>rfl);all_goals (intro h;(try simp only [reduceCtorEq,zzz] at h))))
    all_goals (first|(apply dpa 12;(case hi=>rfl);(case hg=>rfl);(case hn=>rfl);(case hq=>kernel_rfl))|(apply dtg 12;(case hi=>rfl);(case hg=>rfl);(case hop=>(apply prd;apply p_eq <;> rfl));(case hq=>kernel_rfl))|fail)
    all_goals (apply dtk 13;(case hi=>rfl);(case hop=>first|(apply prd;apply p_pickT <;> rfl)|(apply prd;apply p_pickF <;> rfl)|fail);(case hq=>kernel_rfl))
    all_goals (apply dtk 14;(case hi=>rfl);(case hop=>(apply prd;apply p_move <;> rfl));(case hq=>kernel_rfl))
    all_goals (try (apply d_guardB 15;(case hi=>rfl);(case hgd=>rfl);(case h1=>rfl);(case h2=>rfl);all_goals (intro h;(try simp only [reduceCtorEq,zzz] at h))))
    all_goals (first|(apply dpa 15;(case hi=>rfl);(case hg=>rfl);(case hn=>rfl);(case hq=>kernel_rfl))|(apply dtg 15;(case hi=>rfl);(case hg=>rfl);(case hop=>(apply prd;apply p_fieldAddrB <;> rfl));(case hq=>kernel_rfl))|fail)
    all_goals (try (apply d_guardB 16;(case hi=>rfl);(case hgd=>rfl);(case h1=>rfl);(case h2=>rfl);all_goals (intro h;(try simp only [reduceCtorEq,zzz] at h))))
    all_goals (first|(apply dpa 16;(case hi=>rfl);(case hg=>rfl);(case hn=>rfl);(case hq=>kernel_rfl))|(apply dtg 16;(case hi=>rfl);(case hg=>rfl);(case hop=>(apply r_loadNo;(case hx=>rfl);(case h=>(repeat (first|exact mhd _|apply mtl)));(case hd=>(repeat (first|with_reducible exact dt_nil|apply dt_here)));(case hn=>rfl)));(case hq=>kernel_rfl))|fail)
    all_goals (try (apply d_guardB 17;(case hi=>rfl);(case hgd=>rfl);(case h1=>rfl);(case h2=>rfl);all_goals (intro h;(try simp only [reduceCtorEq,zzz] at h))))
    all_goals (first|(apply dpa 17;(case hi=>rfl);(case hg=>rfl);(case hn=>rfl);(case hq=>kernel_rfl))|(apply dtg 17;(case hi=>rfl);(case hg=>rfl);(case hop=>(apply r_loadNo;(case hx=>rfl);(case h=>(repeat (exact mhd _)));(case hd=>(repeat (first|with_reducible exact dt_nil|apply dt_here)));(case hn=>rfl)));(case hq=>kernel_rfl))|fail)
    all_goals (try (apply d_guardB 18;(case hi=>rfl);(case hgd=>rfl);(case h1=>rfl);(case h2=>rfl);all_goals (intro h;(try simp only [reduceCtorEq,zzz] at h))))
    all_goals (first|(apply dpa 18;(case hi=>rfl);(case hg=>rfl);(case hn=>rfl);(case hq=>kernel_rfl))|(apply d_callJG 18 (hs:=ql);(case hi=>rfl);(case hg=>rfl);(case hr=>kernel_rfl);(case ha=>rfl);(case hd=>rfl))|fail)
    all_goals (apply dtk 19;(case hi=>rfl);(case hop=>first|(apply prd;apply p_pickT <;> rfl)|(apply prd;apply p_pickF <;> rfl)|fail);(case hq=>kernel_rfl))
    all_goals (apply d_done;(case hr=>kernel_rfl))
    repeat' (first|apply v_seq|apply v_region|apply v_nil|apply v_skip|apply v_blk|(apply v_pure;(case hop=>first|(apply p_move <;> rfl)|(apply p_assign <;> rfl)|(apply p_add;(case hx=>rfl);(case hy=>rfl);(case h=>omega))|fail);(case hd=>rfl))|(apply v_condT;(case hc=>rfl))|(apply v_cond;(case hc=>rfl);all_goals (intro h;(try simp only [reduceCtorEq,zzz] at h)))|fail)
    all_goals first
      | (refine v_ret [] (outsA1 rfl rfl) (by repeat (first|exact List.Sublist.refl _|exact List.nil_sublist _|fail)) ?_
         exact ⟨rfl,rfl⟩)
      | (refine v_drop (ν:=[(hb',_)]) (by repeat (first|exact List.Sublist.refl _|apply List.Sublist.cons)) ?_
         refine v_again rfl ⟨rfl,rfl,k + 1,by omega,rfl,hnext ⟨by omega,by assumption,?_⟩⟩ (by simp [headI];omega)
         exact of_decide_eq_false (hlb.trans (by assumption)))
      | fail
  have hacc:∀ i (h:i < H.acc.length),H.base < (H.acc[i]).index ∧ (H.acc[i]).round ≠ 0 ∧ ¬ lessP H.pr H.pn (H.acc[i]).round (H.acc[i]).node:=fun i h=>hall i h (by omega)
  clear hall
  repeat' (first|apply v_seq|apply v_region|apply v_nil|apply v_block|(apply v_exit;(case hp=>rfl))|(apply v_pure;(case hop=>first|(apply p_move <;> rfl)|(apply p_lt <;> rfl)|(apply p_assign <;> rfl)|(apply p_lenSlice <;> rfl)|(apply p_fieldAddrB <;> rfl)|fail);(case hd=>rfl))|(apply v_cond;(case hc=>rfl);all_goals (intro h;(try simp only [reduceCtorEq,zzz] at h);first|(exfalso;omega)|skip))|(apply v_read;(case hop=>(apply r_load1;rfl;(apply Cell.own;(case h=>(repeat (exact mhd _)));rfl)));(case hd=>rfl))|fail)
  refine v_loop [5,1] (fun us G2 μ'=>G2 = G' ∧ μ' = [(hb',hardO (hdL H.pr H.pn H.base (.slice A0 H.image.length c0) (.slice A1 H.acc.length c1) (.slice A2 H.cho.length c2)))] ∧ ∃ k,k ≤ H.cho.length ∧ us = [Value.int .i64 (k:Nat),.pointer (some ⟨hb',0,none⟩)] ∧ ∀ i (h:i < H.cho.length),i < k → H.base < (H.cho[i]).index ∧ (H.cho[i]).round = 0) (fun us=>H.cho.length - (headI us).toNat) rfl ⟨rfl,rfl,0,by omega,rfl,by omega⟩ ?_
  rintro us G2 μ' ⟨rfl,rfl,k,hk,rfl,hall⟩
  by_cases hlt:k < H.cho.length
  · have e1:((k:Nat):Int).toNat = k:=by omega
    have kc0:GH.cell? G2 (((adr A2).add (k * 10)).add 0) = some (.int .i64 (H.cho[k]).index):=(hcp2 k hlt).cell (j:=0) rfl
    have kc1:GH.cell? G2 ((((adr A2).add (k * 10)).add 1).add 0) = some (.int .i64 (H.cho[k]).round):=(hcb2 k hlt).cell (j:=0) rfl
    have hnext:H.base < (H.cho[k]).index ∧ (H.cho[k]).round = 0 → ∀ i (h:i < H.cho.length),i < k + 1 → H.base < (H.cho[i]).index ∧ (H.cho[i]).round = 0:=fun hh i hi hik=>by
      by_cases e:i = k
      · subst e;exact hh
      · exact hall i hi (by omega)
    generalize hxe:H.cho[k] = e at *
    have hA:=hs2 (by omega)
    repeat' (first|apply v_seq|apply v_region|apply v_nil|apply v_skip|apply v_block|(apply v_pure;(case hop=>first|(apply p_move <;> rfl)|(apply p_lt <;> rfl)|(apply p_lenSlice <;> rfl)|(apply p_fieldAddrB <;> rfl)|fail);(case hd=>rfl))|(apply v_cond;(case hc=>rfl);all_goals (intro h;(try simp only [reduceCtorEq,zzz] at h);first|(exfalso;omega)|skip))|(apply v_read;(case hop=>(apply r_load1;rfl;(apply Cell.own;(case h=>(repeat (exact mhd _)));rfl)));(case hd=>rfl))|fail)
    refine d_start _ (by kernel_rfl) (by kernel_rfl) (by kernel_rfl) (fun _ he=>he) ?_
    all_goals (apply dtk 0;(case hi=>rfl);(case hop=>(apply prd;apply p_fieldAddrB <;> rfl));(case hq=>kernel_rfl))
    all_goals (apply dtk 1;(case hi=>rfl);(case hop=>(apply r_load1;rfl;(apply Cell.own;(case h=>(repeat (exact mhd _)));rfl)));(case hq=>kernel_rfl))
    all_goals (apply dtk 2;(case hi=>rfl);(case hop=>(apply prd;apply p_move <;> rfl));(case hq=>kernel_rfl))
    all_goals (apply dtk 3;(case hi=>rfl);(case hop=>(apply prd;apply p_indexAddrS;(case hx=>rfl);(case hi=>rfl);(case h0=>omega);(case h=>omega);(case hA=>assumption)));(case hq=>kernel_rfl))
    all_goals (apply dtk 4;(case hi=>rfl);(case hop=>(apply prd;apply p_fieldAddr <;> rfl));(case hq=>kernel_rfl))
    all_goals (apply dtk 5;(case hi=>rfl);(case hop=>((apply r_load1;rfl;exact Cell.frozen kc0)));(case hq=>kernel_rfl))
    all_goals (apply dtk 6;(case hi=>rfl);(case hop=>(apply prd;apply p_fieldAddrB <;> rfl));(case hq=>kernel_rfl))
    all_goals (apply dtk 7;(case hi=>rfl);(case hop=>(apply r_load1;rfl;(apply Cell.own;(case h=>(repeat (exact mhd _)));rfl)));(case hq=>kernel_rfl))
    all_goals (apply dtk 8;(case hi=>rfl);(case hop=>(apply prd;apply p_le <;> rfl));(case hq=>kernel_rfl))
    all_goals (apply dtk 9;(case hi=>rfl);(case hop=>(apply prd;apply p_move <;> rfl));(case hq=>kernel_rfl))
    all_goals (try (apply d_guardB 10;(case hi=>rfl);(case hgd=>rfl);(case h1=>rfl);(case h2=>rfl);all_goals (intro h;(try simp only [reduceCtorEq,zzz] at h))))
    all_goals (first|(apply dpa 10;(case hi=>rfl);(case hg=>rfl);(case hn=>rfl);(case hq=>kernel_rfl))|(apply dtg 10;(case hi=>rfl);(case hg=>rfl);(case hop=>(apply prd;apply p_fieldAddrB <;> rfl));(case hq=>kernel_rfl))|fail)
    all_goals (try (apply d_guardB 11;(case hi=>rfl);(case hgd=>rfl);(case h1=>rfl);(case h2=>rfl);all_goals (intro h;(try simp only [reduceCtorEq,zzz] at h))))
    all_goals (first|(apply dpa 11;(case hi=>rfl);(case hg=>rfl);(case hn=>rfl);(case hq=>kernel_rfl))|(apply dtg 11;(case hi=>rfl);(case hg=>rfl);(case hop=>(apply r_load1;rfl;(apply Cell.own;(case h=>(repeat (exact mhd _)));rfl)));(case hq=>kernel_rfl))|fail)
    all_goals (try (apply d_guardB 12;(case hi=>rfl);(case hgd=>rfl);(case h1=>rfl);(case h2=>rfl);all_goals (intro h;(try simp only [reduceCtorEq,zzz] at h))))
    all_goals (first|(apply dpa 12;(case hi=>rfl);(case hg=>rfl);(case hn=>rfl);(case hq=>kernel_rfl))|(apply dtg 12;(case hi=>rfl);(case hg=>rfl);(case hop=>(apply prd;apply p_move <;> rfl));(case hq=>kernel_rfl))|fail)
    all_goals (try (apply d_guardB 13;(case hi=>rfl);(case hgd=>rfl);(case h1=>rfl);(case h2=>rfl);all_goals (intro h;(try simp only [reduceCtorEq,zzz] at h))))
    all_goals (first|(apply dpa 13;(case hi=>rfl);(case hg=>rfl);(case hn=>rfl);(case hq=>kernel_rfl))|(apply dtg 13;(case hi=>rfl);(case hg=>rfl);(case hop=>(apply prd;apply p_indexAddrS;(case hx=>rfl);(case hi=>rfl);(case h0=>omega);(case h=>omega);(case hA=>assumption)));(case hq=>kernel_rfl))|fail)
    all_goals (try (apply d_guardB 14;(case hi=>rfl);(case hgd=>rfl);(case h1=>rfl);(case h2=>rfl);all_goals (intro h;(try simp only [reduceCtorEq,zzz] at h))))
    all_goals (first|(apply dpa 14;(case hi=>rfl);(case hg=>rfl);(case hn=>rfl);(case hq=>kernel_rfl))|(apply dtg 14;(case hi=>rfl);(case hg=>rfl);(case hop=>(apply prd;apply p_fieldAddr <;> rfl));(case hq=>kernel_rfl))|fail)
    all_goals (try (apply d_guardB 15;(case hi=>rfl);(case hgd=>rfl);(case h1=>rfl);(case h2=>rfl);all_goals (intro h;(try simp only [reduceCtorEq,zzz] at h))))
    all_goals (first|(apply dpa 15;(case hi=>rfl);(case hg=>rfl);(case hn=>rfl);(case hq=>kernel_rfl))|(apply dtg 15;(case hi=>rfl);(case hg=>rfl);(case hop=>(apply prd;apply p_fieldAddrB <;> rfl));(case hq=>kernel_rfl))|fail)
    all_goals (try (apply d_guardB 16;(case hi=>rfl);(case hgd=>rfl);(case h1=>rfl);(case h2=>rfl);all_goals (intro h;(try simp only [reduceCtorEq,zzz] at h))))
    all_goals (first|(apply dpa 16;(case hi=>rfl);(case hg=>rfl);(case hn=>rfl);(case hq=>kernel_rfl))|(apply dtg 16;(case hi=>rfl);(case hg=>rfl);(case hop=>((apply r_load1;rfl;exact Cell.frozen kc1)));(case hq=>kernel_rfl))|fail)
    all_goals (try (apply d_guardB 17;(case hi=>rfl);(case hgd=>rfl);(case h1=>rfl);(case h2=>rfl);all_goals (intro h;(try simp only [reduceCtorEq,zzz] at h))))
    all_goals (first|(apply dpa 17;(case hi=>rfl);(case hg=>rfl);(case hn=>rfl);(case hq=>kernel_rfl))|(apply dtg 17;(case hi=>rfl);(case hg=>rfl);(case hop=>(apply prd;apply p_ne <;> rfl));(case hq=>kernel_rfl))|fail)
    all_goals (apply dtk 18;(case hi=>rfl);(case hop=>first|(apply prd;apply p_pickT <;> rfl)|(apply prd;apply p_pickF <;> rfl)|fail);(case hq=>kernel_rfl))
    all_goals (apply d_done;(case hr=>kernel_rfl))
    repeat' (first|apply v_seq|apply v_region|apply v_nil|apply v_skip|apply v_blk|(apply v_pure;(case hop=>first|(apply p_move <;> rfl)|(apply p_assign <;> rfl)|(apply p_add;(case hx=>rfl);(case hy=>rfl);(case h=>omega))|fail);(case hd=>rfl))|(apply v_condT;(case hc=>rfl))|(apply v_cond;(case hc=>rfl);all_goals (intro h;(try simp only [reduceCtorEq,zzz] at h)))|fail)
    all_goals first
      | (refine v_ret [] (outsA1 rfl rfl) (by repeat (first|exact List.Sublist.refl _|exact List.nil_sublist _|fail)) ?_
         exact ⟨rfl,rfl⟩)
      | (refine v_again rfl ⟨rfl,rfl,k + 1,by omega,rfl,hnext ⟨by omega,by omega⟩⟩ (by simp [headI];omega))
      | fail
  · exfalso
    apply hno
    refine ⟨hmay,by omega,by omega,hiff,by assumption,by assumption,fun e he=>?_,fun e he=>?_⟩
    · obtain ⟨i,hi,rfl⟩:=List.getElem_of_mem he
      exact hacc i hi
    · obtain ⟨i,hi,rfl⟩:=List.getElem_of_mem he
      exact hall i hi (by omega)
noncomputable def errsF (f:Int):List Rc → Int
  | []=>0
  | x :: l=>if errF f x = 0 then errsF f l else errF f x
noncomputable def hasF (f:Int) (l:List Rc):Int:=if f = 1 ∨ f = 2 then errsF f l else 8
theorem errsF_drop {f:Int} {l:List Rc} {k:Nat} (h:k < l.length):errsF f (l.drop k) = if errF f l[k] = 0 then errsF f (l.drop (k + 1)) else errF f l[k]:=by
  rw [List.drop_eq_getElem_cons h]
  rfl
theorem has20_s {G:GH} (f:Int) {l:List Rc} {lv:Value} (hs:Rs G lv l):Con Tryz.prog 13 #[.int .i64 f,lv] G [] (Just (.int .i64 (hasF f l)) G):=by
  obtain ⟨A,c,ivf,rfl,hlc,hcm,hsome,hcp,him,hok⟩:=rsOpen hs
  simp only [maxLen] at hcm
  apply Con.just
  unfold hasF
  by_cases hf:f = 1 ∨ f = 2
  · rw [if_pos hf]
    (refine v_enter Tryz.func13 rfl Tryz.ntmps13 rfl ?_;intro B _)
    repeat' (first|apply v_seq|apply v_region|apply v_nil|apply v_skip|apply v_block|(apply v_take;(case hg=>rfl))|(apply v_pure;(case hop=>first|(apply p_move <;> rfl)|(apply p_lt <;> rfl)|(apply p_gt <;> rfl)|(apply p_assign <;> rfl)|(apply p_pickF <;> rfl)|fail);(case hd=>rfl))|(apply v_cond;(case hc=>rfl);all_goals (intro h;(try simp only [reduceCtorEq,zzz] at h);first|(exfalso;omega)|skip))|(apply v_guardB;(case h1=>rfl);(case h2=>rfl);all_goals (intro h;(try simp only [reduceCtorEq,zzz] at h);first|(exfalso;omega)|skip))|fail)
    all_goals first
      | (exfalso;omega)
      | skip
    refine v_loop [5,0,1] (fun us G' μ'=>G' = G ∧ ∃ k:Nat,k ≤ l.length ∧ errsF f l = errsF f (l.drop k) ∧ us = [Value.int .i64 (k:Nat),.int .i64 f,.slice A l.length c] ∧ μ' = []) (fun us=>l.length - (headI us).toNat) rfl ⟨rfl,0,by omega,rfl,rfl,rfl⟩ ?_
    rintro us G' _ ⟨hG',k,hk,he,rfl,rfl⟩
    subst G'
    have e1:((k:Nat):Int).toNat = k:=by omega
    by_cases hlt:k < l.length
    · have hA:=hsome (by omega)
      have hcx:=hcp k hlt
      have hix:=him k hlt
      have hcok:=hok _ (List.getElem_mem hlt)
      have hd:=errsF_drop (f:=f) hlt
      have hx:RcV G l[k] (.agg (recL l[k].kind l[k].round l[k].node l[k].index l[k].cmd (ivf k)).toArray):=⟨_,rfl,hix⟩
      have q:=refHasV_s f hx hcok.1
      rw [show hasI f l[k] = errF f l[k] by unfold errF;rw [if_pos hf]] at q
      obtain ⟨Ai,ci,hie,-⟩:=hix.openInt
      rw [hie] at q hcx
      generalize l[k] = x at *
      generalize errF f x = e at *
      repeat' (first|apply v_seq|apply v_region|apply v_nil|apply v_skip|apply v_block|apply v_blk|(apply v_pure;(case hop=>first|(apply p_move <;> rfl)|(apply p_lt <;> rfl)|(apply p_ne <;> rfl)|(apply p_assign <;> rfl)|(apply p_lenSlice <;> rfl)|(apply p_add;(case hx=>rfl);(case hy=>rfl);(case h=>omega))|(apply p_indexAddrS;(case hx=>rfl);(case hi=>rfl);(case h0=>omega);(case h=>omega);(case hA=>assumption))|fail);(case hd=>rfl))|(apply v_cond;(case hc=>rfl);all_goals (intro h;(try simp only [reduceCtorEq,zzz] at h);first|(exfalso;omega)|skip))|(apply v_read;(case hop=>(apply r_loadN;rfl;exact CellsAt.frozen hcx;rfl));(case hd=>rfl))|(apply v_callJ (hs:=q);(case ha=>rfl);(case hd=>rfl))|fail)
      all_goals first
        | (refine v_ret [] (outsA1 rfl rfl) (by repeat (exact List.Sublist.refl _)) ?_
           exact ⟨by rw [he,hd,if_neg (by assumption)],rfl⟩)
        | exact v_again rfl ⟨rfl,k + 1,by omega,by rw [he,hd,if_pos (by assumption)],rfl,rfl⟩ (by simp [headI];omega)
        | skip
      all_goals vx_show
    · obtain rfl:k = l.length:=by omega
      rw [List.drop_length] at he
      repeat' (first|apply v_seq|apply v_region|apply v_nil|(apply v_exit;(case hp=>rfl))|(apply v_pure;(case hop=>first|(apply p_move <;> rfl)|(apply p_lt <;> rfl)|(apply p_assign <;> rfl)|(apply p_lenSlice <;> rfl)|fail);(case hd=>rfl))|(apply v_cond;(case hc=>rfl);all_goals (intro h;(try simp only [reduceCtorEq,zzz] at h);first|(exfalso;omega)|skip))|fail)
      refine v_ret [] (outsA1 rfl rfl) (by repeat (exact List.Sublist.refl _)) ?_
      exact ⟨by rw [he];rfl,rfl⟩
  · rw [if_neg hf]
    (refine v_enter Tryz.func13 rfl Tryz.ntmps13 rfl ?_;intro B _)
    repeat' (first|apply v_seq|apply v_region|apply v_nil|(apply v_take;(case hg=>rfl))|(apply v_pass;(case hg=>rfl);(case hn=>rfl);(case hd=>rfl))|(apply v_pure;(case hop=>first|(apply p_move <;> rfl)|(apply p_lt <;> rfl)|(apply p_gt <;> rfl)|(apply p_assign <;> rfl)|(apply p_pickT <;> rfl)|(apply p_pickF <;> rfl)|fail);(case hd=>rfl))|(apply v_condT;(case hc=>rfl))|(apply v_cond;(case hc=>rfl);all_goals (intro h;(try simp only [reduceCtorEq,zzz] at h);first|(exfalso;omega)|skip))|(apply v_guardB;(case h1=>rfl);(case h2=>rfl);all_goals (intro h;(try simp only [reduceCtorEq,zzz] at h)))|fail)
    all_goals first
      | (refine v_ret [] (outsA1 rfl rfl) (by repeat (exact List.Sublist.refl _)) ?_
         exact ⟨rfl,rfl⟩)
      | (exfalso;omega)
      | skip
    all_goals vx_show
noncomputable def headNo (f:Int) (H:Hd):Int:=if f = 1 ∨ f = 2 then (if CheckP H then errsF f (recsOf H) else 3) else 8
theorem frB_max (b:List Int):(frB b).length ≤ b.length + 15:=by
  have:=(vbytes_len (b.length:Int)).1
  rw [frB_len];omega
theorem flat_take {f:Int} {l:List Rc} {k:Nat} (h:k < l.length):flatF (encF f) (l.take (k + 1)) = flatF (encF f) (l.take k) ++ frB (encF f l[k]):=by
  rw [List.take_succ_eq_append_getElem h,flatF_app]
  congr 1
  simp [flatF]
theorem errsF_at {f:Int}:∀ {l:List Rc},errsF f l = 0 → ∀ x ∈ l,errF f x = 0
  | [],_,x,hx=>by simp at hx
  | y :: l,h,x,hx=>by
    unfold errsF at h
    split at h
    · rename_i h0
      rcases List.mem_cons.1 hx with rfl|hx
      · exact h0
      · exact errsF_at h x hx
    · rename_i h0
      exact absurd h h0
set_option maxHeartbeats 1000000 in
theorem head_s {G:GH} (hT:TabsG G) (hC:CrcG G) (f:Int) {H:Hd} {L:List Value} {n:Nat} (hh:HdV G H L) (g:CheckP H → Good n H) (hn:n ≤ 40) (hfw:f ≤ 9223372036854775807) (hlen:(recsOf H).length ≤ 100) (hlg:CheckP H → ∀ x ∈ recsOf H,¬ x.large) :
    Con Tryz.prog 12 #[.int .i64 f,.agg L.toArray] G [] (fun r G' μ'=>μ' = [] ∧ ∃ v,r = .tuple [v,.int .i64 (headNo f H)].toArray ∧ Sl G' 1 (IntR .u8) v (if headNo f H = 0 then fileB encF f (recsOf H).length (recsOf H) else [])):=by
  have qc:=hChk_s hT hh
  have qm:=vmay_s G f
  unfold headNo
  by_cases hf:f = 1 ∨ f = 2
  · rw [if_pos hf]
    rw [decide_eq_true hf] at qm
    by_cases hck:CheckP H
    · rw [if_pos hck] at qc ⊢
      have qr:=records_s hh (g hck) hn
      have hlg:=hlg hck
      obtain ⟨iv,av,cv,rfl,hi,ha,hcv⟩:=id hh
      obtain ⟨A0,c0,rfl,-⟩:=hi.openInt
      obtain ⟨A1,c1,rfl,-⟩:=ha.open
      obtain ⟨A2,c2,rfl,-⟩:=hcv.open
      generalize recsOf H = l at *
      (refine v_enter Tryz.func12 rfl Tryz.ntmps12 rfl ?_;intro B _)
      repeat' (first|apply v_seq|apply v_region|apply v_nil|apply v_skip|(apply v_pure;(case hop=>first|(apply p_move <;> rfl)|(apply p_nes <;> rfl)|(apply p_assign <;> rfl)|(apply p_not <;> rfl)|fail);(case hd=>rfl))|(apply v_condF;(case hc=>rfl))|(apply v_callJ (hs:=qm);(case ha=>rfl);(case hd=>rfl))|(apply v_callJ (hs:=qc);(case ha=>rfl);(case hd=>rfl))|(apply v_read;(case hop=>(apply r_loadNo;(case hx=>rfl);(case h=>(repeat (exact mhd _)));(case hd=>(repeat (first|with_reducible exact dt_nil|apply dt_here)));(case hn=>rfl)));(case hd=>rfl))|(apply v_box;(case hx=>rfl);(case hz=>rfl);(case hd=>rfl);intro b)|fail)
      refine v_call (μ1:=[]) rfl qr (List.Perm.refl _) rfl ?_
      rintro r1 G1 _ hle1 ⟨rfl,hrs⟩
      obtain ⟨A,c,ivf,rfl,hlc,hcm,hsome,hcp,him,hok⟩:=rsOpen hrs
      simp only [maxLen] at hcm
      repeat' (first|apply v_seq|apply v_region|apply v_nil|(apply v_pure;(case hop=>first|(apply p_move <;> rfl)|(apply p_assign <;> rfl)|(apply p_lenSlice <;> rfl)|fail);(case hd=>rfl))|fail)
      refine v_call (μ1:=[]) rfl (first_s (hC.le hle1) f (l.length:Nat) hfw (by omega)) (List.Perm.refl _) rfl ?_
      rintro r2 G2 ν2 hle2 g2
      repeat' (first|apply v_seq|apply v_region|apply v_nil|apply v_block|(apply v_pure;(case hop=>first|(apply p_move <;> rfl)|(apply p_assign <;> rfl)|(apply p_lenSlice <;> rfl)|fail);(case hd=>rfl))|fail)
      refine v_drop (ν:=ν2) (List.sublist_append_left _ _) ?_
      refine v_loop [29,8,28,27,0] (fun us G' μ'=>GH.le G2 G' ∧ ∃ (k:Nat) (v:Value),k ≤ l.length ∧ errsF f l = errsF f (l.drop k) ∧ us = [Value.int .i64 (k:Nat),v,.int .i64 (l.length:Nat),.slice A l.length c,.int .i64 f] ∧ (fileB encF f l.length (l.take k)).length ≤ 100 + k * 60000 ∧ byteL (fileB encF f l.length (l.take k)) ∧ Grow 5 1 v (fileB encF f l.length (l.take k)).length ((fileB encF f l.length (l.take k)).map (.int .u8 ·)) μ') (fun us=>l.length - (headI us).toNat) rfl ⟨GH.le_refl _,0,_,by omega,rfl,rfl,?_,?_,?_⟩ ?_
      · have h1:=vbytes_len f
        have h2:=vbytes_len (l.length:Nat)
        have h3:=frB_max (vbytes f ++ vbytes (l.length:Nat))
        rw [List.length_append] at h3
        simp [fileB,flatF]
        omega
      · have:=frB_byte ((vbytes_byte hfw).app (vbytes_byte (n:=(l.length:Nat)) (by omega))) (headB_ok (f:=f) (n:=l.length))
        simpa [fileB,flatF] using this
      · simpa [fileB,flatF] using g2
      rintro us G' μ' ⟨hle3,k,v,hk,he,rfl,hsz,hby,hg⟩
      obtain ⟨A3,c3,rfl,-,-⟩:=hg.shape
      have e1:((k:Nat):Int).toNat = k:=by omega
      by_cases hlt:k < l.length
      · have hA:=hsome (by omega)
        have hle23:=GH.le_trans hle2 hle3
        have hcx:=(hcp k hlt).le hle23
        have hix:=(him k hlt).mono hle23
        have hcok:=hok _ (List.getElem_mem hlt)
        have hd:=errsF_drop (f:=f) hlt
        have hx:RcV G' l[k] (.agg (recL l[k].kind l[k].round l[k].node l[k].index l[k].cmd (ivf k)).toArray):=⟨_,rfl,hix⟩
        have hle13:=GH.le_trans hle1 hle23
        have q:=sadd_s (hT.le hle13) (hC.le hle13) f hx hcok.1 (hlg _ (List.getElem_mem hlt)) hcok.2
        obtain ⟨Ai,ci,hie,-,-,-,-,hiw⟩:=hix.openInt
        have hmax:errF f (l[k]'hlt) = 0 → (encF f (l[k]'hlt)).length ≤ 50000 ∧ wfL (encF f (l[k]'hlt)):=fun h'=>encF_ok h' hcok.1 hiw
        have hone:=encF_one (f:=f) (x:=l[k]'hlt)
        rw [hie] at q hcx
        have hft:=flat_take (f:=f) hlt
        have hfb:=frB_max (encF f l[k])
        have hfile:fileB encF f l.length (l.take (k + 1)) = fileB encF f l.length (l.take k) ++ frB (encF f l[k]):=by
          unfold fileB
          rw [hft,List.append_assoc]
        unfold AddS at q
        clear hft hx hix hcok hcp him hok qr qc g2
        generalize l[k] = x at *
        repeat' (first|apply v_seq|apply v_region|apply v_nil|apply v_skip|apply v_block|(apply v_pure;(case hop=>first|(apply p_move <;> rfl)|(apply p_lt <;> rfl)|(apply p_indexAddrS;(case hx=>rfl);(case hi=>rfl);(case h0=>omega);(case h=>omega);(case hA=>assumption))|fail);(case hd=>rfl))|(apply v_cond;(case hc=>rfl);all_goals (intro h;(try simp only [reduceCtorEq,zzz] at h);first|(exfalso;omega)|skip))|(apply v_read;(case hop=>(apply r_loadN;rfl;exact CellsAt.frozen hcx;rfl));(case hd=>rfl))|(apply v_read;(case hop=>(apply r_loadNo;(case hx=>rfl);(case h=>(repeat (exact mhd _)));(case hd=>(repeat (first|with_reducible exact dt_nil|apply dt_here)));(case hn=>rfl)));(case hd=>rfl))|(apply v_alloc;(case hz=>rfl);(case hd=>rfl);intro b)|(apply v_store;(case hp=>rfl);(case hx=>rfl);(case hc=>rfl);(case hsz=>rfl);(case h1=>rfl);(case hb=>(repeat (exact mhd _)));(case hfit=>exact nle rfl);(case hov=>((repeat (first|with_reducible exact ov_nil|apply ov_cons));done));(case hu=>repeat (exact Upd.here _ _)))|fail)
        refine v_call (μ1:=[]) rfl q (List.Perm.refl _) rfl ?_
        rintro _ G4 _ hle4 ⟨rfl,v4,rfl,s4⟩
        by_cases h0:errF f x = 0
        · rw [if_pos h0] at s4 hd
          rw [h0]
          obtain ⟨hm1,hm2⟩:=hmax h0
          have hsd:=fun μ=>Src.ints (μ:=μ) s4
          obtain ⟨A4,c4,rfl,hlc4,hcm4,-⟩:=s4.openInt
          have hb2:=frB_byte (wfL.byte hm2) ⟨hone,by omega⟩
          generalize fileB encF f l.length (l.take k) = P at *
          generalize frB (encF f x) = Q at *
          repeat' (first|apply v_seq|apply v_region|apply v_nil|apply v_skip|apply v_blk|(apply v_pure;(case hop=>first|(apply p_move <;> rfl)|(apply p_nes <;> rfl)|(apply p_assign <;> rfl)|(apply p_extract0 <;> rfl)|(apply p_extract1 <;> rfl)|(apply p_add;(case hx=>rfl);(case hy=>rfl);(case h=>omega))|fail);(case hd=>rfl))|(apply v_condF;(case hc=>rfl))|(apply v_append (hg:=hg) (m':=Q.length) (us:=Q.map (.int .u8 ·)) (hp:=PickA.perm (by repeat (first|exact PickA.last|apply PickA.cons))) (hsrc:=hsd _);(case hzs=>rfl);(case hsz=>omega);(case hs=>rfl);(case hx=>rfl);(case hb=>omega);(case hb'=>simp only [maxLen];omega);(case hd=>rfl);(case h1=>exact allOne_ints Q);intro v5 n5 hg5)|fail)
          refine v_only n5 (by repeat (exact PickA.here _)) ?_
          refine v_again rfl ⟨GH.le_trans hle3 hle4,k + 1,v5,by omega,by rw [he,hd],rfl,?_,?_,?_⟩ (by simp [headI];omega)
          · rw [hfile,List.length_append];omega
          · rw [hfile];exact hby.app hb2
          · rw [hfile,List.length_append,List.map_append];exact hg5
        · rw [if_neg h0] at s4 hd
          obtain ⟨A4,c4,rfl,-⟩:=s4.openInt
          repeat' (first|apply v_seq|apply v_region|apply v_nil|(apply v_pure;(case hop=>first|(apply p_move <;> rfl)|(apply p_ne <;> rfl)|(apply p_assign <;> rfl)|(apply p_extract0 <;> rfl)|(apply p_extract1 <;> rfl)|fail);(case hd=>rfl))|(apply v_cond;(case hc=>rfl);all_goals (intro h;(try simp only [reduceCtorEq,zzz] at h);first|(exfalso;omega)|skip))|fail)
          refine v_ret [] (outsA2 rfl rfl rfl) (List.nil_sublist _) ?_
          exact ⟨rfl,_,by rw [he,hd],by rw [he,hd,if_neg h0];exact Sl.nil⟩
      · obtain rfl:k = l.length:=by omega
        rw [List.drop_length] at he
        rw [List.take_length] at hg hby ⊢
        repeat' (first|apply v_seq|apply v_region|apply v_nil|(apply v_exit;(case hp=>rfl))|(apply v_pure;(case hop=>first|(apply p_move <;> rfl)|(apply p_lt <;> rfl)|(apply p_assign <;> rfl)|fail);(case hd=>rfl))|(apply v_cond;(case hc=>rfl);all_goals (intro h;(try simp only [reduceCtorEq,zzz] at h);first|(exfalso;omega)|skip))|fail)
        refine v_frzP (r:=[]) μ' (List.Perm.of_eq (by simp)) ?_
        intro G5 hle5 hG5
        have s5:=hg.ints hG5 (byteL.wf hby)
        refine v_ret [] (outsA2 rfl rfl rfl) (List.nil_sublist _) ?_
        exact ⟨rfl,_,by rw [he];rfl,by rw [he,if_pos (show errsF f [] = 0 from rfl)];exact s5⟩
    · rw [if_neg hck] at qc ⊢
      obtain ⟨iv,av,cv,rfl,hi,ha,hcv⟩:=id hh
      obtain ⟨A0,c0,rfl,-⟩:=hi.openInt
      obtain ⟨A1,c1,rfl,-⟩:=ha.open
      obtain ⟨A2,c2,rfl,-⟩:=hcv.open
      (refine v_enter Tryz.func12 rfl Tryz.ntmps12 rfl ?_;intro B _)
      repeat' (first|apply v_seq|apply v_region|apply v_nil|apply v_skip|(apply v_pure;(case hop=>first|(apply p_move <;> rfl)|(apply p_ne <;> rfl)|(apply p_assign <;> rfl)|(apply p_not <;> rfl)|fail);(case hd=>rfl))|(apply v_condF;(case hc=>rfl))|(apply v_cond;(case hc=>rfl);all_goals (intro h;(try simp only [reduceCtorEq,zzz] at h);first|(exfalso;omega)|skip))|(apply v_callJ (hs:=qm);(case ha=>rfl);(case hd=>rfl))|(apply v_callJ (hs:=qc);(case ha=>rfl);(case hd=>rfl))|(apply v_read;(case hop=>(apply r_loadNo;(case hx=>rfl);(case h=>(repeat (exact mhd _)));(case hd=>(repeat (first|with_reducible exact dt_nil|apply dt_here)));(case hn=>rfl)));(case hd=>rfl))|(apply v_box;(case hx=>rfl);(case hz=>rfl);(case hd=>rfl);intro b)|fail)
      all_goals
        (refine v_ret [] (outsA2 rfl rfl rfl) (by repeat (exact List.nil_sublist _)) ?_
         exact ⟨rfl,_,rfl,by rw [if_neg (by decide)];exact Sl.nil⟩)
  · rw [if_neg hf]
    rw [decide_eq_false hf] at qm
    obtain ⟨iv,av,cv,rfl,hi,ha,hcv⟩:=id hh
    obtain ⟨A0,c0,rfl,-⟩:=hi.openInt
    obtain ⟨A1,c1,rfl,-⟩:=ha.open
    obtain ⟨A2,c2,rfl,-⟩:=hcv.open
    (refine v_enter Tryz.func12 rfl Tryz.ntmps12 rfl ?_;intro B _)
    repeat' (first|apply v_seq|apply v_region|apply v_nil|(apply v_pure;(case hop=>first|(apply p_move <;> rfl)|(apply p_assign <;> rfl)|(apply p_not <;> rfl)|fail);(case hd=>rfl))|(apply v_condT;(case hc=>rfl))|(apply v_callJ (hs:=qm);(case ha=>rfl);(case hd=>rfl))|(apply v_box;(case hx=>rfl);(case hz=>rfl);(case hd=>rfl);intro b)|fail)
    all_goals
      (refine v_ret [] (outsA2 rfl rfl rfl) (by repeat (exact List.nil_sublist _)) ?_
       exact ⟨rfl,_,rfl,by rw [if_neg (by decide)];exact Sl.nil⟩)
open Classical in
noncomputable def decF (f:Int) (b:List Int):Option Rc:=if f = 1 then (if decOk (some b) then some (decX (some b)) else none) else if f = 2 then (if decTOk (some b) then some (decT (some b)).1 else none) else none
theorem decF1 (b:List Int):(decOk (some b) ∧ decF 1 b = some (decX (some b))) ∨ (¬ decOk (some b) ∧ decF 1 b = none):=by
  unfold decF
  rw [if_pos rfl]
  by_cases h:decOk (some b)
  · rw [if_pos h];exact .inl ⟨h,rfl⟩
  · rw [if_neg h];exact .inr ⟨h,rfl⟩
theorem decF2 (b:List Int):(decTOk (some b) ∧ decF 2 b = some (decT (some b)).1) ∨ (¬ decTOk (some b) ∧ decF 2 b = none):=by
  unfold decF
  rw [if_neg (by decide),if_pos rfl]
  by_cases h:decTOk (some b)
  · rw [if_pos h];exact .inl ⟨h,rfl⟩
  · rw [if_neg h];exact .inr ⟨h,rfl⟩
theorem decFN {f:Int} (h:¬ (f = 1 ∨ f = 2)) (b:List Int):decF f b = none:=by
  unfold decF
  rw [if_neg (by omega),if_neg (by omega)]
theorem decF_enc {f:Int} {x:Rc} (h:errF f x = 0) (hl:¬ x.large):decF f (encF f x) = some x:=by
  by_cases h1:f = 1
  · subst h1
    rw [errF1] at h
    have e:encF 1 x = encL x:=by unfold encF;rw [if_pos rfl]
    rw [e]
    obtain ⟨-,h2⟩|⟨h2,-⟩:=decF1 (encL x)
    · rw [h2,(dec_enc h hl).1]
    · exact absurd (decOk_enc h hl) h2
  · by_cases h2:f = 2
    · subst h2
      rw [errF2] at h
      have e:encF 2 x = encT x:=by unfold encF;rw [if_neg (by decide)]
      rw [e]
      obtain ⟨-,h2⟩|⟨h2,-⟩:=decF2 (encT x)
      · rw [h2,(decT_enc h).2]
      · exact absurd (decT_enc h).1 h2
    · rw [errFN (by omega)] at h
      cases h
theorem decF_inv {f:Int} {b:List Int} {x:Rc} (hb:byteL b) (h:decF f b = some x):(f = 1 ∨ f = 2) ∧ errF f x = 0 ∧ encF f x = b ∧ x.cmd.ok ∧ x.small:=by
  have hby:byteS (some b):=fun r hr y hy=>by cases hr;exact hb y hy
  by_cases h1:f = 1
  · subst h1
    obtain ⟨h2,h3⟩|⟨-,h3⟩:=decF1 b
    · rw [h3] at h
      obtain rfl:=Option.some.inj h
      have ho:=h2.2.2
      exact ⟨.inl rfl,by rw [errF1];exact ho,by unfold encF;rw [if_pos rfl];exact enc_dec hby h2,decX_ok hby,(fits0 (older0 ho).1).2.1⟩
    · rw [h3] at h
      cases h
  · by_cases h2:f = 2
    · subst h2
      obtain ⟨h2,h3⟩|⟨-,h3⟩:=decF2 b
      · rw [h3] at h
        obtain rfl:=Option.some.inj h
        have ho:=h2.2.2.2
        exact ⟨.inr rfl,by rw [errF2];exact ho,by unfold encF;rw [if_neg (by decide)];exact encT_dec hby h2,rdX_ok (numS_b hby _),(fits0 (show recI _ _ _ _ _ _ = 0 from ho)).2.1⟩
      · rw [h3] at h
        cases h
    · rw [decFN (by omega)] at h
      cases h
theorem encL_size {x:Rc} (h:olderI x = 0) (hi:x.image.length ≤ 300):3 ≤ (encL x).length ∧ (encL x).length ≤ 7000:=by
  obtain ⟨hf,hsm,him,hsz⟩:=fits0 (older0 h).1
  have hh:=headL_len x
  have h3:3 ≤ (headL x).length:=by
    have h1:=(vbytes_len x.kind).2
    have h2:=(vbytes_len x.round).2
    have h3:=(vbytes_len x.node).2
    unfold headL
    simp only [List.length_append]
    omega
  have h4:=(vbytes_len x.cmd.kind).1
  have h5:=putL_len x.cmd (by omega) (by omega) (by omega) 6
  have h6:=(vbytes_len (x.image.length:Nat)).1
  unfold encL
  split
  · rw [List.length_append,List.length_append];omega
  · split
    · rw [List.length_append,List.length_append];omega
    · omega
theorem encT_size {x:Rc} (h:chkI x = 0) (hi:x.image.length ≤ 300):3 ≤ (encT x).length ∧ (encT x).length ≤ 7000:=by
  have h0:recI x.kind x.round x.node x.index x.cmd x.image.length = 0:=h
  obtain ⟨hf,hsm,him,hsz⟩:=fits0 h0
  have hk:=(rec0 h0).1
  have h1:=vbytes_len (x.kind + 16)
  have h2:=vbytes_len x.round
  have h3:=vbytes_len x.node
  have h4:=vbytes_len x.index
  have h5:=vbytes_len x.cmd.kind
  have h6:=vbytes_len (x.image.length:Nat)
  have h7:=putW_len (wantB 2 x.cmd.kind) x.cmd (by omega) (by omega) (by omega) 6
  unfold encT tailT
  generalize vbytes (x.kind + 16) = V at *
  obtain h|h|h|h:x.kind = 1 ∨ x.kind = 2 ∨ x.kind = 3 ∨ x.kind = 4:=by omega
  all_goals
    simp [h]
    omega
theorem encF_size {f:Int} {x:Rc} (h:errF f x = 0) (hi:x.image.length ≤ 300):3 ≤ (encF f x).length ∧ (encF f x).length ≤ 7000:=by
  by_cases h1:f = 1
  · subst h1
    rw [errF1] at h
    unfold encF
    rw [if_pos rfl]
    exact encL_size h hi
  · by_cases h2:f = 2
    · subst h2
      rw [errF2] at h
      unfold encF
      rw [if_neg (by decide)]
      exact encT_size h hi
    · rw [errFN (by omega)] at h
      cases h
theorem encF_okC {f:Int} {x:Rc} (h:errF f x = 0) (hl:¬ x.large) (hc:x.cmd.ok) (hi:wfL x.image):okC (encF f) (decF f) x:=by
  obtain ⟨h1,h2⟩:=encF_ok h hc hi
  exact ⟨⟨encF_one,by omega⟩,decF_enc h hl,wfL.byte h2⟩
def GetR (f:Int) (l:List Int) (r:Value) (G':GH) (μ':OH):Prop:=μ' = [] ∧ ∃ x v e,r = .tuple [v,.int .i64 e].toArray ∧ RcV G' x v ∧ ((decF f l = some x ∧ e = 0) ∨ (decF f l = none ∧ e ≠ 0))
theorem getF_s {G:GH} (hT:TabsG G) (f:Int) {l:List Int} {bv:Value} (hs:Sl G 1 (IntR .u8) bv l) (hl:l.length ≤ 1048000):Con Tryz.prog 107 #[.int .i64 f,bv] G [] (GetR f l):=by
  by_cases h1:f = 1
  · subst h1
    refine (get1_s hT hs hl).mono ?_
    rintro r G' μ' ⟨rfl,x,v,e,rfl,hx,hc⟩
    refine ⟨rfl,x,v,e,rfl,hx,?_⟩
    obtain ⟨g1,g2⟩|⟨g1,g2⟩:=decF1 l
    · obtain ⟨-,rfl,rfl⟩|⟨h,-⟩:=hc
      · exact .inl ⟨g2,rfl⟩
      · exact absurd g1 h
    · obtain ⟨h,-⟩|⟨-,rfl,h⟩:=hc
      · exact absurd h g1
      · exact .inr ⟨g2,h⟩
  · by_cases h2:f = 2
    · subst h2
      refine (get2_s hT hs hl).mono ?_
      rintro r G' μ' ⟨rfl,x,v,e,rfl,hx,hc⟩
      refine ⟨rfl,x,v,e,rfl,hx,?_⟩
      obtain ⟨g1,g2⟩|⟨g1,g2⟩:=decF2 l
      · obtain ⟨-,rfl,rfl⟩|⟨h,-⟩:=hc
        · exact .inl ⟨g2,rfl⟩
        · exact absurd g1 h
      · obtain ⟨h,-⟩|⟨-,rfl,h⟩:=hc
        · exact absurd h g1
        · exact .inr ⟨g2,h⟩
    · refine (getN_s (by omega) bv).mono ?_
      rintro r G' μ' ⟨rfl,rfl,rfl⟩
      exact ⟨rfl,zeroRc,_,8,rfl,⟨_,rfl,Sl.nil⟩,.inr ⟨decFN (by omega) _,by decide⟩⟩
theorem GrowR.app {G:GH} {v':Value} {l l2:List Rc} {ν':OH} {css css2:List (List Value)} (h1:css.length = l.length) (h2:∀ (i:Nat) y cs,l[i]? = some y → css[i]? = some cs → RcR G y cs) (k1:css2.length = l2.length) (k2:∀ (i:Nat) y cs,l2[i]? = some y → css2[i]? = some cs → RcR G y cs) (h:Grow 42 12 v' (l.length + l2.length) (css.flatten ++ css2.flatten) ν'):GrowR G v' (l ++ l2) ν':=by
  refine ⟨css ++ css2,by simp [h1,k1],fun i y cs hy hc=>?_,by simpa using h⟩
  by_cases hi:i < l.length
  · rw [List.getElem?_append_left hi] at hy
    rw [List.getElem?_append_left (by omega)] at hc
    exact h2 i y cs hy hc
  · rw [List.getElem?_append_right (by omega)] at hy hc
    rw [h1] at hc
    exact k2 _ y cs hy hc
structure OkF (f:Int) (x:Rc):Prop where
  err:errF f x = 0
  img:x.image.length ≤ 300
theorem errF_parts {f:Int} {x:Rc} (h:errF f x = 0):(f = 1 ∨ f = 2) ∧ x.fits ∧ (1 ≤ x.kind ∧ x.kind ≤ 4):=by
  by_cases h1:f = 1
  · subst h1
    rw [errF1] at h
    exact ⟨.inl rfl,(fits0 (older0 h).1).1,(rec0 (older0 h).1).1⟩
  · by_cases h2:f = 2
    · subst h2
      rw [errF2] at h
      exact ⟨.inr rfl,(fits0 (show recI _ _ _ _ _ _ = 0 from h)).1,(rec0 (show recI _ _ _ _ _ _ = 0 from h)).1⟩
    · rw [errFN (by omega)] at h
      cases h
theorem rbytesF_s {G:GH} {f:Int} {x:Rc} {xv:Value} (hx:RcV G x xv) (hc:x.cmd.ok) (hw:x.small) (h:errF f x = 0):Con Tryz.prog 57 #[.int .i64 f,xv] G [] (fun r G' μ'=>GH.le G G' ∧ Grow 5 1 r (encF f x).length ((encF f x).map (.int .u8 ·)) μ'):=by
  obtain ⟨hf,h1,h2⟩:=errF_parts h
  obtain rfl|rfl:=hf
  · exact rone_s hx hc h1 hw h2
  · exact rtwo_s hx hc h1 hw h2
theorem fileB_take {f:Int} {n:Nat} {l:List Rc} {k:Nat} (h:k < l.length):fileB encF f n (l.take (k + 1)) = fileB encF f n (l.take k) ++ frB (encF f l[k]):=by
  unfold fileB
  rw [flat_take h,List.append_assoc]
theorem fileB_zero (f:Int) (n:Nat) (l:List Rc):fileB encF f n (l.take 0) = frB (vbytes f ++ vbytes (n:Nat)):=by
  simp [fileB,flatF]
theorem headB_size (f:Int) (n:Nat):(vbytes f ++ vbytes (n:Nat)).length ≤ 30 ∧ (frB (vbytes f ++ vbytes (n:Nat))).length ≤ 100:=by
  have h1:=vbytes_len f
  have h2:=vbytes_len (n:Nat)
  have h3:=frB_max (vbytes f ++ vbytes (n:Nat))
  rw [List.length_append] at h3
  rw [List.length_append]
  omega
theorem headB_wf {f:Int} {n:Nat} (hf:f ≤ 9223372036854775807) (hn:(n:Int) ≤ 9223372036854775807):byteL (frB (vbytes f ++ vbytes (n:Nat))):=frB_byte ((vbytes_byte hf).app (vbytes_byte hn)) headB_ok
set_option maxHeartbeats 1000000 in
theorem file_s {G:GH} {H:Hd} {L:List Value} {n:Nat} (hh:HdV G H L) (g:Good n H) (hn:n ≤ 40) {f:Int} (hf:f = 1 ∨ f = 2) {more:List Rc} {mv:Value} (hm:Rs G mv more) (hm40:more.length ≤ 40) (hall:∀ x ∈ recsOf H ++ more,OkF f x) (hlen:(recsOf H).length ≤ 100) :
    Con Tryz.prog 17 #[.int .i64 f,.agg L.toArray,mv] G [] (fun r G' μ'=>byteL (fileB encF f (recsOf H).length (recsOf H ++ more)) ∧ Grow 5 1 r (fileB encF f (recsOf H).length (recsOf H ++ more)).length ((fileB encF f (recsOf H).length (recsOf H ++ more)).map (.int .u8 ·)) μ'):=by
  have qr:=records20_s hh g hn
  obtain ⟨iv,av,cv,rfl,hi,ha,hcv⟩:=id hh
  obtain ⟨A0,c0,rfl,hl0,hm0,-⟩:=hi.openInt
  obtain ⟨A1,c1,rfl,-⟩:=ha.open
  obtain ⟨A2,c2,rfl,-⟩:=hcv.open
  obtain ⟨Am,cm,rfl,-⟩:=id hm.open
  generalize recsOf H = l at *
  have hlw:byteL (frB (vbytes f ++ vbytes (l.length:Nat))):=headB_wf (by omega) (by omega)
  have hhs:=headB_size f l.length
  have hhw:wfL (vbytes f ++ vbytes (l.length:Nat)):=byteL.wf ((vbytes_byte (by omega)).app (vbytes_byte (by omega)))
  (refine v_enter Tryz.func17 rfl Tryz.ntmps17 rfl ?_;intro B _)
  repeat' (first|apply v_seq|apply v_region|apply v_nil|(apply v_pure;(case hop=>(apply p_assign <;> rfl));(case hd=>rfl))|(apply v_read;(case hop=>(apply r_loadNo;(case hx=>rfl);(case h=>(repeat (exact mhd _)));(case hd=>(repeat (first|with_reducible exact dt_nil|apply dt_here)));(case hn=>rfl)));(case hd=>rfl))|(apply v_box;(case hx=>rfl);(case hz=>rfl);(case hd=>rfl);intro b)|fail)
  refine v_call (μ1:=[]) rfl qr (List.Perm.refl _) rfl ?_
  rintro v1 G1 ν1 hle1 hg1
  obtain ⟨css,hcl,hcr,hgr⟩:=hg1
  obtain ⟨Ag,cg,rfl,-,-⟩:=hgr.shape
  repeat' (first|apply v_seq|apply v_region|apply v_nil|(apply v_pure;(case hop=>first|(apply p_move <;> rfl)|(apply p_assign <;> rfl)|fail);(case hd=>rfl))|fail)
  refine v_call (μ1:=[]) rfl (rnum_s _ f (by omega)) (List.Perm.refl _) rfl ?_
  rintro v2 G2 ν2 - ⟨hG2,hg2⟩
  subst hG2
  repeat' (first|(apply v_pure;(case hop=>first|(apply p_move <;> rfl)|(apply p_lenSlice <;> rfl)|fail);(case hd=>rfl))|fail)
  refine v_call (μ1:=[]) rfl (rnum_s _ (l.length:Nat) (by omega)) (List.Perm.refl _) rfl ?_
  rintro v3 G3 ν3 - ⟨hG3,hg3⟩
  subst hG3
  refine v_frzP ν3 (List.Perm.refl _) ?_
  intro G4 hle4 hG4
  have s3:=hg3.ints hG4 (byteL.wf (vbytes_byte (by omega)))
  have hsd:=fun μ=>Src.ints (μ:=μ) s3
  have hl1:=(vbytes_len f).1
  have hl2:=(vbytes_len (l.length:Nat)).1
  repeat' (first|(apply v_append (hg:=hg2) (m':=(vbytes (l.length:Nat)).length) (us:=(vbytes (l.length:Nat)).map (.int .u8 ·)) (hp:=List.Perm.refl _) (hsrc:=hsd _);(case hzs=>rfl);(case hsz=>omega);(case hs=>rfl);(case hx=>rfl);(case hb=>omega);(case hb'=>simp only [maxLen];omega);(case hd=>rfl);(case h1=>exact allOne_ints _);intro v5 n5 hg5)|fail)
  have hg6:Grow 5 1 v5 (vbytes f ++ vbytes (l.length:Nat)).length ((vbytes f ++ vbytes (l.length:Nat)).map (Value.int .u8 ·)) n5:=by
    rw [List.length_append,List.map_append]
    exact hg5
  clear hsd s3 hg5 hg2 hg3
  generalize hP:vbytes f ++ vbytes (l.length:Nat) = P at *
  refine v_frzP n5 (List.Perm.refl _) ?_
  intro G5 hle5 hG5
  have s6:=hg6.ints hG5 hhw
  repeat' (fail)
  refine v_call (μ1:=[]) rfl (rframe_s s6 (by omega)) (List.Perm.refl _) rfl ?_
  rintro v7 G6 ν7 - ⟨hG6,hg7⟩
  subst hG6
  have hle6:=GH.le_trans hle1 (GH.le_trans hle4 hle5)
  obtain ⟨cssM,hcl2,hcr2,hsM,hallM⟩:=rsFlat (Rs.le' hle6 hm)
  have hcr':=fun i y cs h1 h2=>(hcr i y cs h1 h2).le (GH.le_trans hle4 hle5)
  refine v_perm (ν:=ν1 ++ (ν7 ++ [(b,.cells (hdL H.pr H.pn H.base (.slice A0 H.image.length c0) (.slice A1 H.acc.length c1) (.slice A2 H.cho.length c2)).toArray 27 (0,0))])) (by apply perm_of_count;intro p;simp only [List.append_eq,List.countP_append,List.countP_cons,List.countP_nil,Nat.zero_add,Nat.add_zero];try ac_rfl) ?_
  repeat' (first|apply v_seq|apply v_region|apply v_nil|apply v_block|(apply v_pure;(case hop=>first|(apply p_move <;> rfl)|(apply p_assign <;> rfl)|fail);(case hd=>rfl))|(apply v_append (hg:=hgr) (m':=more.length) (us:=cssM.flatten) (hp:=List.Perm.refl _) (hsrc:=hsM _);(case hzs=>rfl);(case hsz=>omega);(case hs=>rfl);(case hx=>rfl);(case hb=>omega);(case hb'=>simp only [maxLen];omega);(case hd=>rfl);(case h1=>exact hallM);intro v8 n8 hg8)|fail)
  refine v_frzP n8 (List.Perm.refl _) ?_
  intro G7 hle7 hG7
  have hrs:=(GrowR.app hcl hcr' hcl2 hcr2 hg8).rs hle7 hG7
  refine v_drop (ν:=ν7) (List.sublist_append_left _ _) ?_
  have hz:=fileB_zero f l.length (l ++ more)
  rw [hP] at hz
  have hln:(l ++ more).length ≤ 140:=by rw [List.length_append];omega
  clear hg8 hsM hallM hcr2 hcl2 hcr hcr' hcl hgr hg6 s6 hG5 hG4 hG7 hm hh hi ha hcv
  generalize l.length = n0 at *
  generalize hl0:l ++ more = l0 at *
  obtain ⟨A,c,ivf,rfl,hlc,hcm,hsome,hcp,him,hok⟩:=rsOpen hrs
  simp only [maxLen] at hcm
  refine v_loop [9,8,7,0] (fun us G' μ'=>GH.le G7 G' ∧ ∃ (k:Nat) (v:Value),k ≤ l0.length ∧ us = [Value.int .i64 (k:Nat),v,.slice A l0.length c,.int .i64 f] ∧ (fileB encF f n0 (l0.take k)).length ≤ 100 + k * 7100 ∧ byteL (fileB encF f n0 (l0.take k)) ∧ Grow 5 1 v (fileB encF f n0 (l0.take k)).length ((fileB encF f n0 (l0.take k)).map (.int .u8 ·)) μ') (fun us=>l0.length - (headI us).toNat) rfl ⟨GH.le_refl _,0,_,by omega,rfl,by rw [hz];omega,by rw [hz];exact hlw,by rw [hz];exact hg7⟩ ?_
  rintro us G' μ' ⟨hle,k,v,hk,rfl,hsz,hby,hg⟩
  obtain ⟨A3,c3,rfl,-,-⟩:=hg.shape
  have e1:((k:Nat):Int).toNat = k:=by omega
  by_cases hlt:k < l0.length
  · have hA:=hsome (by omega)
    have hcx:=(hcp k hlt).le hle
    have hix:=(him k hlt).mono hle
    have hcok:=hok _ (List.getElem_mem hlt)
    have hall':=hall _ (List.getElem_mem hlt)
    have hft:=fileB_take (f:=f) (n:=n0) hlt
    have hx:RcV G' l0[k] (.agg (recL l0[k].kind l0[k].round l0[k].node l0[k].index l0[k].cmd (ivf k)).toArray):=⟨_,rfl,hix⟩
    have q:=rbytesF_s hx hcok.1 hcok.2 hall'.err
    obtain ⟨Ai,ci,hie,-,-,-,-,hiw⟩:=hix.openInt
    have hsz2:=(encF_size hall'.err hall'.img).2
    have hwf2:=(encF_ok hall'.err hcok.1 hiw).2
    have hone:=encF_one (f:=f) (x:=l0[k]'hlt)
    have hfb:=frB_max (encF f l0[k])
    have hb2:=frB_byte (wfL.byte hwf2) ⟨hone,by omega⟩
    rw [hie] at q hcx
    clear hx hix hcok hcp him hok hall' hall hiw
    generalize l0[k] = x at *
    generalize encF f x = E at *
    repeat' (first|apply v_seq|apply v_region|apply v_nil|apply v_skip|apply v_block|(apply v_pure;(case hop=>first|(apply p_move <;> rfl)|(apply p_lt <;> rfl)|(apply p_lenSlice <;> rfl)|(apply p_indexAddrS;(case hx=>rfl);(case hi=>rfl);(case h0=>omega);(case h=>omega);(case hA=>assumption))|fail);(case hd=>rfl))|(apply v_cond;(case hc=>rfl);all_goals (intro h;(try simp only [reduceCtorEq,zzz] at h);first|(exfalso;omega)|skip))|(apply v_read;(case hop=>(apply r_loadN;rfl;exact CellsAt.frozen hcx;rfl));(case hd=>rfl))|fail)
    refine v_call (μ1:=[]) rfl q (List.Perm.refl _) rfl ?_
    rintro v1 G8 ν8 - ⟨hle8,hg8⟩
    refine v_frzP ν8 (List.Perm.refl _) ?_
    intro G9 hle9 hG9
    have s9:=hg8.ints hG9 hwf2
    repeat' (fail)
    refine v_call (μ1:=[]) rfl (rframe_s s9 (by omega)) (List.Perm.refl _) rfl ?_
    rintro v10 G10 ν10 - ⟨hG10,hg10⟩
    subst hG10
    refine v_frzP ν10 (List.Perm.refl _) ?_
    intro G11 hle11 hG11
    have s11:=hg10.ints hG11 (byteL.wf hb2)
    have hsd:=fun μ=>Src.ints (μ:=μ) s11
    generalize fileB encF f n0 (l0.take k) = P at *
    generalize frB E = Q at *
    repeat' (first|apply v_region|apply v_nil|apply v_blk|(apply v_pure;(case hop=>first|(apply p_move <;> rfl)|(apply p_assign <;> rfl)|(apply p_add;(case hx=>rfl);(case hy=>rfl);(case h=>omega))|fail);(case hd=>rfl))|(apply v_append (hg:=hg) (m':=Q.length) (us:=Q.map (.int .u8 ·)) (hp:=PickA.perm (by repeat (exact PickA.last))) (hsrc:=hsd _);(case hzs=>rfl);(case hsz=>omega);(case hs=>rfl);(case hx=>rfl);(case hb=>omega);(case hb'=>simp only [maxLen];omega);(case hd=>rfl);(case h1=>exact allOne_ints Q);intro v12 n12 hg12)|fail)
    refine v_only n12 (by repeat (exact PickA.here _)) ?_
    refine v_again rfl ⟨GH.le_trans hle (GH.le_trans hle8 (GH.le_trans hle9 hle11)),k + 1,v12,by omega,rfl,?_,?_,?_⟩ (by simp [headI];omega)
    · rw [hft,List.length_append];omega
    · rw [hft];exact hby.app hb2
    · rw [hft,List.length_append,List.map_append];exact hg12
  · obtain rfl:k = l0.length:=by omega
    rw [List.take_length] at hg hby ⊢
    repeat' (first|apply v_seq|apply v_region|apply v_nil|(apply v_exit;(case hp=>rfl))|(apply v_pure;(case hop=>first|(apply p_move <;> rfl)|(apply p_lt <;> rfl)|(apply p_assign <;> rfl)|(apply p_lenSlice <;> rfl)|fail);(case hd=>rfl))|(apply v_cond;(case hc=>rfl);all_goals (intro h;(try simp only [reduceCtorEq,zzz] at h);first|(exfalso;omega)|skip))|fail)
    exact v_ret _ (outsA1 rfl rfl) (List.Sublist.refl _) ⟨hby,hg⟩
theorem endN_file {f:Int} {n:Nat} {xs:List Rc} {i:Nat}:endN encF f n xs i = (fileB encF f n (xs.take i)).length:=by
  unfold endN fileB
  rw [List.length_append]
def endsL (f:Int) (n:Nat) (xs:List Rc) (m:Nat):List Int:=(List.range m).map fun i=>((endN encF f n xs i:Nat):Int)
theorem endsL_len {f:Int} {n:Nat} {xs:List Rc} {m:Nat}:(endsL f n xs m).length = m:=by simp [endsL]
theorem endsL_succ {f:Int} {n:Nat} {xs:List Rc} {m:Nat}:(endsL f n xs (m + 1)).map (Value.int .i64 ·) = (endsL f n xs m).map (Value.int .i64 ·) ++ [.int .i64 ((endN encF f n xs m:Nat):Int)]:=by
  simp [endsL,List.range_succ]
set_option maxHeartbeats 2000000 in
theorem ends_s {G:GH} {H:Hd} {L:List Value} {n:Nat} (hh:HdV G H L) (g:Good n H) (hn:n ≤ 40) {f:Int} (hf:f = 1 ∨ f = 2) {more:List Rc} {mv:Value} (hm:Rs G mv more) (hm40:more.length ≤ 40) (hall:∀ x ∈ recsOf H ++ more,OkF f x) (hlen:(recsOf H).length ≤ 100) :
    Con Tryz.prog 20 #[.int .i64 f,.agg L.toArray,mv] G [] (fun r G' μ'=>Grow 3 1 r ((recsOf H).length + more.length + 1) ((endsL f (recsOf H).length (recsOf H ++ more) ((recsOf H).length + more.length + 1)).map (.int .i64 ·)) μ'):=by
  have qr:=fun G' (h:GH.le G G')=>records20_s (hh.le h) g hn
  have qf:=fun G' (h:GH.le G G') (k:Nat) (hk:k ≤ more.length) v (hv:Rs G' v (more.take k))=>file_s (hh.le h) g hn hf hv (by rw [List.length_take];omega) (fun x hx=>hall x (by
    rcases List.mem_append.1 hx with hx|hx
    · exact List.mem_append_left _ hx
    · exact List.mem_append_right _ (List.mem_of_mem_take hx))) hlen
  have hmo:=hm
  obtain ⟨iv,av,cv,rfl,hi,ha,hcv⟩:=id hh
  obtain ⟨A0,c0,rfl,hl0,hm0,-⟩:=hi.openInt
  obtain ⟨A1,c1,rfl,-⟩:=ha.open
  obtain ⟨A2,c2,rfl,-⟩:=hcv.open
  obtain ⟨Am,cm,rfl,hml,hmm,-⟩:=id hm.open
  simp only [maxLen] at hmm
  generalize recsOf H = l at *
  have hhs:=headB_size f l.length
  have hhw:wfL (vbytes f ++ vbytes (l.length:Nat)):=byteL.wf ((vbytes_byte (by omega)).app (vbytes_byte (by omega)))
  have hlw:byteL (frB (vbytes f ++ vbytes (l.length:Nat))):=headB_wf (by omega) (by omega)
  have hz:=fileB_zero f l.length l
  have hl1:=(vbytes_len f).1
  have hl2:=(vbytes_len (l.length:Nat)).1
  (refine v_enter Tryz.func20 rfl Tryz.ntmps20 rfl ?_;intro B _)
  repeat' (first|apply v_seq|apply v_region|apply v_nil|(apply v_pure;(case hop=>(apply p_assign <;> rfl));(case hd=>rfl))|(apply v_read;(case hop=>(apply r_loadNo;(case hx=>rfl);(case h=>(repeat (exact mhd _)));(case hd=>(repeat (first|with_reducible exact dt_nil|apply dt_here)));(case hn=>rfl)));(case hd=>rfl))|(apply v_box;(case hx=>rfl);(case hz=>rfl);(case hd=>rfl);intro b)|fail)
  rename Nat=>hb
  refine v_call (μ1:=[]) rfl (qr _ (GH.le_refl _)) (List.Perm.refl _) rfl ?_
  rintro v1 G1 ν1 hle1 ⟨css,hcl,hcr,hgr⟩
  obtain ⟨Ag,cg,rfl,-,-⟩:=hgr.shape
  refine v_drop (ν:=[(hb,.cells (hdL H.pr H.pn H.base (.slice A0 H.image.length c0) (.slice A1 H.acc.length c1) (.slice A2 H.cho.length c2)).toArray 27 (0,0))]) (List.sublist_append_right _ _) ?_
  clear hcr hgr hcl
  repeat' (first|apply v_seq|apply v_region|apply v_nil|apply v_block|(apply v_pure;(case hop=>first|(apply p_assign <;> rfl)|(apply p_lenSlice <;> rfl)|fail);(case hd=>rfl))|fail)
  refine v_loop [9,8,7,4,2,0] (fun us G' μ'=>GH.le G G' ∧ ∃ (k:Nat) (v:Value) (ν:OH),k ≤ l.length + more.length + 1 ∧ us = [Value.int .i64 (k:Nat),v,.int .i64 (l.length:Nat),.pointer (some ⟨hb,0,none⟩),.slice Am more.length cm,.int .i64 f] ∧ Grow 3 1 v k ((endsL f l.length (l ++ more) k).map (.int .i64 ·)) ν ∧ μ' = ν ++ [(hb,.cells (hdL H.pr H.pn H.base (.slice A0 H.image.length c0) (.slice A1 H.acc.length c1) (.slice A2 H.cho.length c2)).toArray 27 (0,0))]) (fun us=>l.length + more.length + 1 - (headI us).toNat) rfl ⟨hle1,0,_,[],by omega,rfl,Grow.nil _ _,rfl⟩ ?_
  rintro us G2 _ ⟨hle2,k,v,ν,hk,rfl,hg,rfl⟩
  obtain ⟨A3,c3,rfl,-,-⟩:=hg.shape
  have e1:((k:Nat):Int).toNat = k:=by omega
  by_cases hlt:k < l.length
  · have hek:endN encF f l.length (l ++ more) k = (fileB encF f l.length (l.take k)).length:=by
      rw [endN_file,List.take_append_of_le_length (by omega)]
    have hsucc:=endsL_succ (f:=f) (n:=l.length) (xs:=l ++ more) (m:=k)
    rw [hek] at hsucc
    repeat' (first|apply v_seq|apply v_region|apply v_nil|apply v_skip|apply v_block|(apply v_pure;(case hop=>first|(apply p_move <;> rfl)|(apply p_lt <;> rfl)|(apply p_le <;> rfl)|(apply p_lenSlice <;> rfl)|(apply p_add;(case hx=>rfl);(case hy=>rfl);(case h=>omega))|fail);(case hd=>rfl))|(apply v_cond;(case hc=>rfl);all_goals (intro h;(try simp only [reduceCtorEq,zzz] at h);first|(exfalso;omega)|skip))|(apply v_read;(case hop=>(apply r_loadNo;(case hx=>rfl);(case h=>(repeat (first|exact mhd _|apply List.mem_append_right)));(case hd=>(repeat (first|with_reducible exact dt_nil|apply dt_here)));(case hn=>rfl)));(case hd=>rfl))|fail)
    refine v_call (μ1:=[]) rfl (qr _ hle2) (List.Perm.refl _) rfl ?_
    rintro v1 G3 ν1 hle3 hg1
    refine v_frzP ν1 (List.Perm.refl _) ?_
    intro G4 hle4 hG4
    have hrs:=hg1.rs hle4 hG4
    obtain ⟨A,c,ivf,rfl,hlc,hcm,hsome,hcp,him,hok⟩:=rsOpen hrs
    simp only [maxLen] at hcm
    repeat' (first|apply v_seq|apply v_region|apply v_nil|(apply v_pure;(case hop=>first|(apply p_move <;> rfl)|(apply p_assign <;> rfl)|fail);(case hd=>rfl))|fail)
    refine v_call (μ1:=[]) rfl (rnum_s _ f (by omega)) (List.Perm.refl _) rfl ?_
    rintro v2 G5 ν2 - ⟨hG5,hg2⟩
    subst hG5
    repeat' (first|(apply v_pure;(case hop=>(apply p_move <;> rfl));(case hd=>rfl))|fail)
    refine v_call (μ1:=[]) rfl (rnum_s _ (l.length:Nat) (by omega)) (List.Perm.refl _) rfl ?_
    rintro v3 G6 ν3 - ⟨hG6,hg3⟩
    subst hG6
    refine v_frzP ν3 (List.Perm.refl _) ?_
    intro G7 hle7 hG7
    have s3:=hg3.ints hG7 (byteL.wf (vbytes_byte (by omega)))
    have hsd:=fun μ=>Src.ints (μ:=μ) s3
    repeat' (first|(apply v_append (hg:=hg2) (m':=(vbytes (l.length:Nat)).length) (us:=(vbytes (l.length:Nat)).map (.int .u8 ·)) (hp:=List.Perm.refl _) (hsrc:=hsd _);(case hzs=>rfl);(case hsz=>omega);(case hs=>rfl);(case hx=>rfl);(case hb=>omega);(case hb'=>simp only [maxLen];omega);(case hd=>rfl);(case h1=>exact allOne_ints _);intro v5 n5 hg5)|fail)
    have hg6:Grow 5 1 v5 (vbytes f ++ vbytes (l.length:Nat)).length ((vbytes f ++ vbytes (l.length:Nat)).map (Value.int .u8 ·)) n5:=by
      rw [List.length_append,List.map_append]
      exact hg5
    clear hsd s3 hg5 hg2 hg3
    generalize vbytes f ++ vbytes (l.length:Nat) = P at *
    refine v_frzP n5 (List.Perm.refl _) ?_
    intro G8 hle8 hG8
    have s6:=hg6.ints hG8 hhw
    repeat' (fail)
    refine v_call (μ1:=[]) rfl (rframe_s s6 (by omega)) (List.Perm.refl _) rfl ?_
    rintro v7 G9 ν7 - ⟨hG9,hg7⟩
    subst hG9
    have hle49:=GH.le_trans hle7 hle8
    have hle29:=GH.le_trans hle2 (GH.le_trans (GH.le_trans hle3 hle4) hle49)
    repeat' (first|apply v_seq|apply v_region|apply v_nil|apply v_block|(apply v_pure;(case hop=>(apply p_assign <;> rfl));(case hd=>rfl))|fail)
    refine v_loop [12,11,10,9,8,7,4,2,0] (fun us G' μ'=>GH.le G9 G' ∧ ∃ (j:Nat) (v:Value) (νb:OH),j ≤ k ∧ us = [Value.int .i64 (j:Nat),v,.slice A l.length c,.int .i64 (k:Nat),.slice A3 k c3,.int .i64 (l.length:Nat),.pointer (some ⟨hb,0,none⟩),.slice Am more.length cm,.int .i64 f] ∧ (fileB encF f l.length (l.take j)).length ≤ 100 + j * 7100 ∧ byteL (fileB encF f l.length (l.take j)) ∧ Grow 5 1 v (fileB encF f l.length (l.take j)).length ((fileB encF f l.length (l.take j)).map (.int .u8 ·)) νb ∧ μ' = νb ++ (ν ++ [(hb,.cells (hdL H.pr H.pn H.base (.slice A0 H.image.length c0) (.slice A1 H.acc.length c1) (.slice A2 H.cho.length c2)).toArray 27 (0,0))])) (fun us=>k - (headI us).toNat) rfl ⟨GH.le_refl _,0,_,ν7,by omega,rfl,by rw [hz];omega,by rw [hz];exact hlw,by rw [hz];exact hg7,rfl⟩ ?_
    rintro us G' _ ⟨hle,j,v,νb,hj,rfl,hsz,hby,hgb,rfl⟩
    obtain ⟨A4,c4,rfl,-,-⟩:=hgb.shape
    have e2:((j:Nat):Int).toNat = j:=by omega
    by_cases hjk:j < k
    · have hjl:j < l.length:=by omega
      have hA:=hsome (by omega)
      have hcx:=(hcp j hjl).le (GH.le_trans hle49 hle)
      have hix:=(him j hjl).mono (GH.le_trans hle49 hle)
      have hcok:=hok _ (List.getElem_mem hjl)
      have hall':=hall _ (List.mem_append_left more (List.getElem_mem hjl))
      have hft:=fileB_take (f:=f) (n:=l.length) hjl
      have hx:RcV G' l[j] (.agg (recL l[j].kind l[j].round l[j].node l[j].index l[j].cmd (ivf j)).toArray):=⟨_,rfl,hix⟩
      have q:=rbytesF_s hx hcok.1 hcok.2 hall'.err
      obtain ⟨Ai,ci,hie,-,-,-,-,hiw⟩:=hix.openInt
      have hsz2:=(encF_size hall'.err hall'.img).2
      have hwf2:=(encF_ok hall'.err hcok.1 hiw).2
      have hone:=encF_one (f:=f) (x:=l[j]'hjl)
      have hfb:=frB_max (encF f l[j])
      have hb2:=frB_byte (wfL.byte hwf2) ⟨hone,by omega⟩
      rw [hie] at q hcx
      clear hx hix hcok hcp him hok hall' hiw
      generalize l[j] = x at *
      generalize encF f x = E at *
      repeat' (first|apply v_seq|apply v_region|apply v_nil|apply v_skip|apply v_block|(apply v_pure;(case hop=>first|(apply p_move <;> rfl)|(apply p_lt <;> rfl)|(apply p_indexAddrS;(case hx=>rfl);(case hi=>rfl);(case h0=>omega);(case h=>omega);(case hA=>assumption))|fail);(case hd=>rfl))|(apply v_cond;(case hc=>rfl);all_goals (intro h;(try simp only [reduceCtorEq,zzz] at h);first|(exfalso;omega)|skip))|(apply v_read;(case hop=>(apply r_loadN;rfl;exact CellsAt.frozen hcx;rfl));(case hd=>rfl))|fail)
      refine v_call (μ1:=[]) rfl q (List.Perm.refl _) rfl ?_
      rintro v10 G10 ν10 - ⟨hle10,hg10⟩
      refine v_frzP ν10 (List.Perm.refl _) ?_
      intro G11 hle11 hG11
      have s11:=hg10.ints hG11 hwf2
      repeat' (fail)
      refine v_call (μ1:=[]) rfl (rframe_s s11 (by omega)) (List.Perm.refl _) rfl ?_
      rintro v12 G12 ν12 - ⟨hG12,hg12⟩
      subst hG12
      refine v_frzP ν12 (List.Perm.refl _) ?_
      intro G13 hle13 hG13
      have s13:=hg12.ints hG13 (byteL.wf hb2)
      have hsd:=fun μ=>Src.ints (μ:=μ) s13
      generalize fileB encF f l.length (l.take j) = P2 at *
      generalize frB E = Q at *
      repeat' (first|apply v_region|apply v_nil|apply v_blk|(apply v_pure;(case hop=>first|(apply p_move <;> rfl)|(apply p_assign <;> rfl)|(apply p_add;(case hx=>rfl);(case hy=>rfl);(case h=>omega))|fail);(case hd=>rfl))|(apply v_append (hg:=hgb) (m':=Q.length) (us:=Q.map (.int .u8 ·)) (hp:=List.Perm.refl _) (hsrc:=hsd _);(case hzs=>rfl);(case hsz=>omega);(case hs=>rfl);(case hx=>rfl);(case hb=>omega);(case hb'=>simp only [maxLen];omega);(case hd=>rfl);(case h1=>exact allOne_ints Q);intro v14 n14 hg14)|fail)
      refine v_again rfl ⟨GH.le_trans hle (GH.le_trans hle10 (GH.le_trans hle11 hle13)),j + 1,v14,n14,by omega,rfl,?_,?_,?_,rfl⟩ (by simp [headI];omega)
      · rw [hft,List.length_append];omega
      · rw [hft];exact hby.app hb2
      · rw [hft,List.length_append,List.map_append];exact hg14
    · obtain rfl:j = k:=by omega
      repeat' (first|apply v_seq|apply v_region|apply v_nil|(apply v_exit;(case hp=>rfl))|(apply v_pure;(case hop=>first|(apply p_move <;> rfl)|(apply p_lt <;> rfl)|(apply p_assign <;> rfl)|(apply p_lenSlice <;> rfl)|(apply p_add;(case hx=>rfl);(case hy=>rfl);(case h=>omega))|fail);(case hd=>rfl))|(apply v_cond;(case hc=>rfl);all_goals (intro h;(try simp only [reduceCtorEq,zzz] at h);first|(exfalso;omega)|skip))|(apply v_append (hg:=hg) (m':=1) (us:=[.int .i64 ((fileB encF f l.length (l.take j)).length:Nat)]) (hp:=PickA.perm (by repeat (first|exact PickA.here _|apply PickA.cons|apply PickA.app))) (hsrc:=Src.own (e:=3) (by repeat (exact mhd _)) rfl);(case hzs=>rfl);(case hsz=>omega);(case hs=>rfl);(case hx=>rfl);(case hb=>omega);(case hb'=>simp only [maxLen];omega);(case hd=>rfl);(case h1=>rfl);intro v15 n15 hg15)|(apply v_buildSlice;(case hz=>rfl);(case hi=>rfl);(case hv=>(simp only [List.map_cons,List.map_nil];repeat (first|with_reducible exact evs_nil|(apply evs_cons;(case h1=>rfl)))));(case hp=>(apply pk_cons;(case hc=>rfl);(case hs=>rfl);(case h=>(with_reducible exact pk_nil));(case he=>((repeat (first|with_reducible exact ap_nil|apply ap_cons));done))));(case hb=>rfl);(case hd=>rfl);intro b)|fail)
      refine v_drop (ν:=n15 ++ [(hb,.cells (hdL H.pr H.pn H.base (.slice A0 H.image.length c0) (.slice A1 H.acc.length c1) (.slice A2 H.cho.length c2)).toArray 27 (0,0))]) (List.Sublist.append_left (by repeat (first|exact List.Sublist.refl _|apply List.Sublist.cons|apply List.sublist_append_of_sublist_right)) _) ?_
      refine v_again rfl ⟨GH.le_trans hle29 hle,j + 1,v15,n15,by omega,rfl,by rw [hsucc];exact hg15,rfl⟩ (by simp [headI];omega)
  · repeat' (first|apply v_seq|apply v_region|apply v_nil|apply v_skip|apply v_block|(apply v_exit;(case hp=>rfl))|(apply v_pure;(case hop=>first|(apply p_move <;> rfl)|(apply p_lt <;> rfl)|(apply p_le <;> rfl)|(apply p_assign <;> rfl)|(apply p_lenSlice <;> rfl)|(apply p_add;(case hx=>rfl);(case hy=>rfl);(case h=>omega))|fail);(case hd=>rfl))|(apply v_cond;(case hc=>rfl);all_goals (intro h;(try simp only [reduceCtorEq,zzz] at h);first|(exfalso;omega)|skip))|fail)
    · have hej:(((k:Nat):Int) - ((l.length:Nat):Int)).toNat = k - l.length:=by omega
      have hek:endN encF f l.length (l ++ more) k = (fileB encF f l.length (l ++ more.take (k - l.length))).length:=by
        rw [endN_file,List.take_append,List.take_of_length_le (by omega)]
      have hsucc:=endsL_succ (f:=f) (n:=l.length) (xs:=l ++ more) (m:=k)
      rw [hek,← hej] at hsucc
      have q:=qf _ hle2 (((k:Nat):Int) - ((l.length:Nat):Int)).toNat (by omega) _ ((Rs.le' hle2 hm).take (by omega))
      refine d_start [(hb,.cells (hdL H.pr H.pn H.base (.slice A0 H.image.length c0) (.slice A1 H.acc.length c1) (.slice A2 H.cho.length c2)).toArray 27 (0,0))] (by kernel_rfl) (by kernel_rfl) (by kernel_rfl) (by intro e he;(simp at he;simp [he];done)) ?_
      all_goals (apply dtk 0;(case hi=>rfl);(case hop=>(apply prd;apply p_move <;> rfl));(case hq=>kernel_rfl))
      all_goals (apply dtk 1;(case hi=>rfl);(case hop=>(apply prd;apply p_move <;> rfl));(case hq=>kernel_rfl))
      all_goals (apply dtk 2;(case hi=>rfl);(case hop=>first|(apply r_loadNo;(case hx=>rfl);(case h=>(repeat (exact mhd _)));(case hd=>(repeat (first|with_reducible exact dt_nil|apply dt_here)));(case hn=>rfl))|(apply r_load1;rfl;(apply Cell.own;(case h=>(repeat (fail)));rfl))|(apply r_loadN;rfl;(apply CellsAt.own;(case h=>(repeat (fail))));rfl));(case hq=>kernel_rfl))
      all_goals (apply dtk 3;(case hi=>rfl);(case hop=>(apply prd;apply p_move <;> rfl));(case hq=>kernel_rfl))
      all_goals (apply dtk 4;(case hi=>rfl);(case hop=>(apply prd;apply p_move <;> rfl));(case hq=>kernel_rfl))
      all_goals (apply dtk 5;(case hi=>rfl);(case hop=>(apply prd;apply p_move <;> rfl));(case hq=>kernel_rfl))
      all_goals (apply dtk 6;(case hi=>rfl);(case hop=>(apply prd;apply p_sub;(case hx=>rfl);(case hy=>rfl);(case h=>omega)));(case hq=>kernel_rfl))
      all_goals (apply dtk 7;(case hi=>rfl);(case hop=>(apply prd;apply p_sliceH;(case hx=>rfl);(case hh=>rfl);all_goals omega));(case hq=>kernel_rfl))
      all_goals ((apply d_call 8 (hs:=q) (μ1:=[]);(case hi=>rfl);(case hr=>kernel_rfl);  (case ha=>rfl);(case hp=>exact List.Perm.refl _);(case hd=>rfl);(case hν'=>intro e he;simp at he;simp [he]);rintro r4 G4 ν4 hle4 ⟨hb4,hg4⟩;obtain ⟨A4,c4,rfl,-,-⟩:=hg4.shape))
      all_goals (apply dtk 9;(case hi=>rfl);(case hop=>(apply prd;apply p_lenSlice <;> rfl));(case hq=>kernel_rfl))
      all_goals (apply d_buildSlice 10;(case hi=>rfl);(case hr=>kernel_rfl);(case hT=>infer_instance);(case hL=>infer_instance);(case hz=>rfl);(case hl=>rfl);(case hv=>(simp only [List.map_cons,List.map_nil];repeat (first|with_reducible exact evs_nil|(apply evs_cons;(case h1=>rfl)))));(case hp=>(apply pk_cons;(case hc=>rfl);(case hs=>rfl);(case h=>(with_reducible exact pk_nil));(case he=>((repeat (first|with_reducible exact ap_nil|apply ap_cons));done))));(case hb=>rfl);(case hd=>rfl);(case hν=>intro e he;(simp at he;simp [he];done));intro bb)
      all_goals (apply d_append 11 (hg:=hg) (q':=1) (us:=[.int .i64 ((fileB encF f l.length (l ++ more.take (((k:Nat):Int) - ((l.length:Nat):Int)).toNat)).length:Nat)]) (hp:=PickA.perm (by repeat (first|exact PickA.here _|apply PickA.cons|apply PickA.app))) (hsrc:=Src.own (e:=3) (by repeat (exact mhd _)) rfl);(case hi=>rfl);(case hr=>kernel_rfl);(case hT=>infer_instance);(case hL=>infer_instance);(case hzs=>rfl);(case hsz=>omega);(case hs=>rfl);(case hx=>rfl);(case hb=>omega);(case hb'=>simp only [maxLen];omega);(case hd=>rfl);(case h1=>rfl);(case hν=>intro e he;(simp at he;simp [he];done));intro v5 n5 hg5)
      all_goals (apply dtk 12;(case hi=>rfl);(case hop=>(apply prd;apply p_assign <;> rfl));(case hq=>kernel_rfl))
      all_goals (apply d_done;(case hr=>kernel_rfl))
      repeat' (first|apply v_region|apply v_nil|apply v_blk|(apply v_pure;(case hop=>first|(apply p_move <;> rfl)|(apply p_assign <;> rfl)|(apply p_add;(case hx=>rfl);(case hy=>rfl);(case h=>omega))|fail);(case hd=>rfl))|fail)
      refine v_drop (ν:=n5 ++ [(hb,.cells (hdL H.pr H.pn H.base (.slice A0 H.image.length c0) (.slice A1 H.acc.length c1) (.slice A2 H.cho.length c2)).toArray 27 (0,0))]) (List.Sublist.append_left (by repeat (first|exact List.Sublist.refl _|apply List.Sublist.cons|apply List.sublist_append_of_sublist_right)) _) ?_
      refine v_again rfl ⟨GH.le_trans hle2 hle4,k + 1,v5,n5,by omega,rfl,by rw [hsucc];exact hg5,rfl⟩ (by simp [headI];omega)
    · obtain rfl:k = l.length + more.length + 1:=by omega
      exact v_ret ν (outsA1 rfl rfl) (List.sublist_append_left _ _) hg
theorem rs_wf {G:GH} {v:Value} {l:List Rc} (h:Rs G v l):∀ x ∈ l,x.cmd.ok ∧ x.small ∧ wfL x.image:=by
  obtain ⟨A,c,ivf,rfl,hlc,hcm,hsome,hcp,him,hok⟩:=rsOpen h
  intro x hx
  obtain ⟨i,hi,rfl⟩:=List.getElem_of_mem hx
  obtain ⟨-,-,-,-,-,-,-,hw⟩:=(him i hi).openInt
  exact ⟨(hok _ (List.getElem_mem hi)).1,(hok _ (List.getElem_mem hi)).2,hw⟩
theorem behind_s {G:GH} {H:Hd} {L:List Value} {n:Nat} (hh:HdV G H L) (g:Good n H) (hn:n ≤ 40) {more:List Rc} {mv:Value} (hm:Rs G mv more) (hlen:(recsOf H).length + more.length ≤ 200) :
    Con Tryz.prog 23 #[.agg L.toArray,mv] G [] (fun r G' μ'=>μ' = [] ∧ ∃ L',r = .agg L'.toArray ∧ HdV G' (hardOf (recsOf H ++ more)) L'):=by
  have qr:=records20_s hh g hn
  obtain ⟨iv,av,cv,rfl,hi,ha,hcv⟩:=id hh
  obtain ⟨A0,c0,rfl,hl0,hm0,-⟩:=hi.openInt
  obtain ⟨A1,c1,rfl,-⟩:=ha.open
  obtain ⟨A2,c2,rfl,-⟩:=hcv.open
  obtain ⟨Am,cm,rfl,hml,hmm,-⟩:=id hm.open
  generalize recsOf H = l at *
  (refine v_enter Tryz.func23 rfl Tryz.ntmps23 rfl ?_;intro B _)
  repeat' (first|apply v_seq|apply v_region|apply v_nil|(apply v_read;(case hop=>(apply r_loadNo;(case hx=>rfl);(case h=>(repeat (first|exact mhd _|apply mtl)));(case hd=>(repeat (first|with_reducible exact dt_nil|apply dt_here)));(case hn=>rfl)));(case hd=>rfl))|(apply v_alloc;(case hz=>rfl);(case hd=>rfl);intro b)|(apply v_box;(case hx=>rfl);(case hz=>rfl);(case hd=>rfl);intro b)|fail)
  revert b
  intro rb
  rename Nat=>hb
  refine v_call (μ1:=[]) rfl qr (List.Perm.refl _) rfl ?_
  rintro v1 G1 ν1 hle1 ⟨css,hcl,hcr,hgr⟩
  obtain ⟨Ag,cg,rfl,-,-⟩:=hgr.shape
  obtain ⟨cssM,hcl2,hcr2,hsM,hallM⟩:=rsFlat (Rs.le' hle1 hm)
  repeat' (first|apply v_seq|apply v_region|apply v_nil|(apply v_pure;(case hop=>first|(apply p_move <;> rfl)|(apply p_assign <;> rfl));(case hd=>rfl))|(apply v_append (hg:=hgr) (m':=more.length) (us:=cssM.flatten) (hp:=PickA.perm (by repeat (exact PickA.here _))) (hsrc:=hsM _);(case hzs=>rfl);(case hsz=>omega);(case hs=>rfl);(case hx=>rfl);(case hb=>omega);(case hb'=>simp only [maxLen];omega);(case hd=>rfl);(case h1=>exact hallM);intro v8 n8 hg8)|fail)
  refine v_frzP n8 (List.Perm.refl _) ?_
  intro G7 hle7 hG7
  have hrs:=(GrowR.app hcl hcr hcl2 hcr2 hg8).rs hle7 hG7
  have qo:=rOf_s hrs (by rw [List.length_append];omega)
  rw [hard_eq fun x hx=>(rs_wf hrs x hx).1] at qo
  generalize hardOf (l ++ more) = K at *
  refine v_call (μ1:=[]) rfl qo (List.Perm.refl _) rfl ?_
  rintro _ G9 _ hle9 ⟨rfl,L',rfl,hL⟩
  obtain ⟨iv',av',cv',rfl,hi',ha',hc'⟩:=hL
  obtain ⟨B0,d0,rfl,-⟩:=id hi'.openInt
  obtain ⟨B1,d1,rfl,-⟩:=id ha'.open
  obtain ⟨B2,d2,rfl,-⟩:=id hc'.open
  repeat' (first|apply v_nil|(apply v_store;(case hp=>rfl);(case hx=>rfl);(case hc=>rfl);(case hsz=>rfl);(case h1=>rfl);(case hb=>(repeat (exact mhd _)));(case hfit=>exact nle rfl);(case hov=>((repeat (first|with_reducible exact ov_nil|apply ov_cons));done));(case hu=>repeat (exact Upd.here _ _)))|fail)
  refine v_retM [] (outsM_cell (vs:=hdL K.pr K.pn K.base (.slice B0 K.image.length d0) (.slice B1 K.acc.length d1) (.slice B2 K.cho.length d2)) (e:=27) rfl rfl (by repeat (exact mhd _)) rfl) (by repeat (exact List.nil_sublist _)) ?_
  exact ⟨rfl,_,rfl,_,_,_,rfl,hi',ha',hc'⟩
theorem flatF_size {f:Int}:∀ {xs:List Rc},(∀ x ∈ xs,OkF f x) → (flatF (encF f) xs).length ≤ xs.length * 7100
  | [],_=>by simp [flatF]
  | x :: xs,h=>by
    have h1:=flatF_size (xs:=xs) fun y hy=>h y (List.mem_cons_of_mem _ hy)
    have h2:=h x List.mem_cons_self
    have h3:=(encF_size h2.err h2.img).2
    have h4:=frB_max (encF f x)
    have e:flatF (encF f) (x :: xs) = frB (encF f x) ++ flatF (encF f) xs:=by simp [flatF]
    rw [e,List.length_append,List.length_cons]
    omega
theorem fileB_size {f:Int} {n:Nat} {xs:List Rc} (h:∀ x ∈ xs,OkF f x):(fileB encF f n xs).length ≤ 100 + xs.length * 7100:=by
  have h1:=flatF_size h
  have h2:=(headB_size f n).2
  unfold fileB
  rw [List.length_append]
  omega
theorem endsL_get {f:Int} {n:Nat} {xs:List Rc} {m k:Nat} (h:k < (endsL f n xs m).length):(endsL f n xs m)[k] = ((endN encF f n xs k:Nat):Int):=by
  simp [endsL]
theorem endN_mono {f:Int} {n:Nat} {xs:List Rc} {i j:Nat} (h:i ≤ j):endN encF f n xs i ≤ endN encF f n xs j:=by
  have:=flatF_len_take (encF f) (xs.take j) i
  rw [List.take_take,Nat.min_eq_left h] at this
  unfold endN
  omega
def rdL (bv:Value) (at_ f:Int) (lv:Value):List Value:=[bv,.int .i64 at_,.int .i64 f,.int .i64 0,.int .i64 0,.int .i64 0,.slice none 0 0,.slice none 0 0,.slice none 0 0,.int .i64 0,.int .i64 0,lv]
abbrev sgO (bv:Value) (at_ f:Int) (lv:Value):Obj:=.cells (rdL bv at_ f lv).toArray 106 (0,0)
def BegR (B:List Int) (rb:Nat) (sv:Value) (r:Value) (μ':OH):Prop := ∃ (at_:Nat) (f n:Int) (is:Bool),at_ ≤ B.length ∧ r = .tuple [.int .i64 n,.bool is].toArray ∧ μ' = [(rb,sgO sv (at_:Nat) f (.slice none 0 0))] ∧ ((nextF B = none ∧ is = false) ∨ ∃ hd t,nextF B = some (hd,t) ∧ at_ = B.length - t.length ∧ f = (headF B.length hd).1 ∧ n = (headF B.length hd).2.1 ∧ is = decide ((headF B.length hd).2.2 = true ∧ ((headF B.length hd).1 = 1 ∨ (headF B.length hd).1 = 2)))
theorem nextF_body {l b r:List Int} (hw:byteL l) (h:nextF l = some (b,r)):b.length ≤ l.length ∧ r.length ≤ l.length:=by
  obtain ⟨e,-⟩:=nextF_inv hw h
  have h1:=congrArg List.length e
  have h2:=frB_len b
  rw [List.length_append] at h1
  omega
theorem begin_s {G:GH} (hC:CrcG G) {D:List Int} {sv:Value} (rb:Nat) (hs:Sl G 1 (IntR .u8) sv D) (hl:D.length ≤ 1048000):Con Tryz.prog 61 #[.pointer (some ⟨rb,0,none⟩)] G [(rb,sgO sv 0 0 (.slice none 0 0))] (fun r G' μ'=>BegR D rb sv r μ'):=by
  have q1:=fnext_s hC 0 hs (by omega) (by omega)
  have hbd:=fun b r=>nextF_body (l:=D) (b:=b) (r:=r) (fun y hy=>sl_byte hs y hy)
  unfold BegR
  unfold NextR at q1
  rw [List.drop_zero] at q1
  obtain ⟨A,c,rfl,-⟩:=id hs.openInt
  (refine v_enter Tryz.func61 rfl Tryz.ntmps61 rfl ?_;intro B _)
  repeat' (first|apply v_seq|apply v_region|apply v_nil|(apply v_pure;(case hop=>first|(apply p_move <;> rfl)|(apply p_assign <;> rfl)|(apply p_fieldAddrB <;> rfl)|(apply p_nilCheck <;> rfl)|fail);(case hd=>rfl))|(apply v_read;(case hop=>(apply r_load1;rfl;(apply Cell.own;(case h=>(repeat (exact mhd _)));rfl)));(case hd=>rfl))|fail)
  refine v_call (μ1:=[]) rfl q1 (List.Perm.refl _) rfl ?_
  rintro _ G1 _ hle1 ⟨rfl,v,z,e,rfl,⟨hd,t,hn,sv1,rfl,rfl⟩|⟨hn,he,rfl,rfl⟩⟩
  · obtain ⟨A1,c1,rfl,-⟩:=id sv1.openInt
    have hbl:=hbd _ _ hn
    repeat' (first|apply v_seq|apply v_region|apply v_nil|apply v_skip|(apply v_pure;(case hop=>first|(apply p_move <;> rfl)|(apply p_nes <;> rfl)|(apply p_assign <;> rfl)|(apply p_extract0 <;> rfl)|(apply p_extract1 <;> rfl)|(apply p_extract2 <;> rfl)|fail);(case hd=>rfl))|(apply v_condF;(case hc=>rfl))|fail)
    refine v_call (μ1:=[]) rfl (newReader_s sv1 (by omega)) (List.Perm.refl _) rfl ?_
    rintro _ G2 _ - ⟨hle2,b1,bv1,rfl,rfl,hs1⟩
    have hr0:RdS hd 0 0 (some hd):=⟨by omega,.inr ⟨by simp,rfl⟩⟩
    repeat' (first|apply v_seq|apply v_region|apply v_nil|(apply v_pure;(case hop=>first|(apply p_move <;> rfl)|(apply p_assign <;> rfl)|fail);(case hd=>rfl))|fail)
    refine v_call (μ1:=[(b1,_)]) rfl (rdNumber_s b1 _ _ 2 hs1 (by omega) hr0) (PickA.perm (by repeat (exact PickA.here _))) rfl ?_
    rintro _ _ _ - ⟨rfl,rfl,a1,no1,rfl,hr1⟩
    repeat' (first|apply v_seq|apply v_region|apply v_nil|(apply v_pure;(case hop=>first|(apply p_move <;> rfl)|(apply p_lenSlice <;> rfl)|(apply p_fieldAddrB <;> rfl)|(apply p_nilCheck <;> rfl)|fail);(case hd=>rfl))|(apply v_read;(case hop=>(apply r_load1;rfl;(apply Cell.own;(case h=>(repeat (first|exact mhd _|apply mtl)));rfl)));(case hd=>rfl))|(apply v_store;(case hp=>rfl);(case hx=>rfl);(case hc=>rfl);(case hsz=>rfl);(case h1=>rfl);(case hb=>(repeat (first|exact mhd _|apply mtl)));(case hfit=>exact nle rfl);(case hov=>((repeat (first|with_reducible exact ov_nil|apply ov_cons));done));(case hu=>repeat (first|exact Upd.here _ _|apply Upd.there)))|fail)
    refine v_call (μ1:=[(b1,_)]) rfl (rdNumber_s b1 _ _ (D.length:Nat) hs1 (by omega) hr1) (PickA.perm (by repeat (exact PickA.here _))) rfl ?_
    rintro _ _ _ - ⟨rfl,rfl,a2,no2,rfl,hr2⟩
    repeat' (first|apply v_seq|apply v_region|apply v_nil|(apply v_pure;(case hop=>first|(apply p_move <;> rfl)|(apply p_assign <;> rfl)|(apply p_fieldAddrB <;> rfl)|(apply p_nilCheck <;> rfl)|fail);(case hd=>rfl))|(apply v_store;(case hp=>rfl);(case hx=>rfl);(case hc=>rfl);(case hsz=>rfl);(case h1=>rfl);(case hb=>(repeat (first|exact mhd _|apply mtl)));(case hfit=>exact nle rfl);(case hov=>((repeat (first|with_reducible exact ov_nil|apply ov_cons));done));(case hu=>repeat (first|exact Upd.here _ _|apply Upd.there)))|fail)
    refine v_call (μ1:=[(b1,_)]) rfl (rdDone_s b1 _ _ hs1 (by omega) hr2) (PickA.perm (by repeat (exact PickA.here _))) rfl ?_
    rintro _ _ _ - ⟨rfl,⟨ed,rfl,hed⟩,rfl⟩
    have qm:=fun G=>vmay_s G (numV 2 (some hd))
    have hh:headF (D.length:Nat) hd = (numV 2 (some hd),numV (D.length:Nat) (numS 2 (some hd)),decide (ed = 0)):=by unfold headF;simp only [← hed]
    clear hed hr0 hr1 hr2
    generalize numV (D.length:Nat) (numS 2 (some hd)) = nn at *
    generalize numV 2 (some hd) = f at *
    repeat' (first|apply v_nil|(apply v_take;(case hg=>rfl))|(apply v_pass;(case hg=>rfl);(case hn=>rfl);(case hd=>rfl))|(apply v_pure;(case hop=>first|(apply p_move <;> rfl)|(apply p_eq <;> rfl)|(apply p_assign <;> rfl)|(apply p_pickT <;> rfl)|(apply p_pickF <;> rfl)|(apply p_fieldAddrB <;> rfl)|(apply p_nilCheck <;> rfl)|fail);(case hd=>rfl))|(apply v_guardB;(case h1=>rfl);(case h2=>rfl);all_goals (intro h;(try simp only [reduceCtorEq,zzz] at h)))|(apply v_callJ (hs:=qm _);(case ha=>rfl);(case hd=>rfl))|(apply v_read;(case hop=>(apply r_load1;rfl;(apply Cell.own;(case h=>(repeat (first|exact mhd _|apply mtl)));rfl)));(case hd=>rfl))|fail)
    all_goals
      refine v_ret [(rb,_)] (outsA2 rfl rfl rfl) (by repeat (first|exact List.Sublist.refl _|apply List.Sublist.cons)) ?_
      refine ⟨_,_,_,_,(by omega:D.length - t.length ≤ D.length),rfl,rfl,.inr ⟨hd,t,hn,rfl,by rw [hh],by rw [hh],?_⟩⟩
      simp only [hh,decide_eq_true_eq]
      simp [*]
    all_goals vx_show
  · repeat' (first|apply v_seq|apply v_region|apply v_nil|(apply v_pure;(case hop=>first|(apply p_move <;> rfl)|(apply p_ne <;> rfl)|(apply p_assign <;> rfl)|(apply p_extract0 <;> rfl)|(apply p_extract1 <;> rfl)|(apply p_extract2 <;> rfl)|fail);(case hd=>rfl))|(apply v_cond;(case hc=>rfl);all_goals (intro h;(try simp only [reduceCtorEq,zzz] at h);first|(exfalso;omega)|skip))|fail)
    refine v_ret [(rb,_)] (outsA2 rfl rfl rfl) (by repeat (exact List.Sublist.refl _)) ?_
    exact ⟨0,_,_,_,by omega,rfl,rfl,.inl ⟨hn,rfl⟩⟩
def NxtR (D:List Int) (rb:Nat) (sv:Value) (at_:Nat) (f:Int) (xs:List Rc) (r:Value) (G':GH) (μ':OH):Prop := ∃ (ok:Bool) (at':Nat) (lv':Value) (ν':OH) (xs':List Rc),r = .bool ok ∧ μ'.Perm ((rb,sgO sv (at':Nat) f lv') :: ν') ∧ GrowR G' lv' xs' ν' ∧ ((ok = false ∧ at' = at_ ∧ xs' = xs ∧ (nextF (D.drop at_) = none ∨ ∃ b t,nextF (D.drop at_) = some (b,t) ∧ decF f b = none)) ∨ (ok = true ∧ ∃ b t x,nextF (D.drop at_) = some (b,t) ∧ decF f b = some x ∧ xs' = xs ++ [x] ∧ at' = D.length - t.length))
set_option maxHeartbeats 1000000 in
theorem next_s {G:GH} (hT:TabsG G) (hC:CrcG G) {D:List Int} {sv lv:Value} (rb at_:Nat) (f:Int) {xs:List Rc} {ν:OH} (hs:Sl G 1 (IntR .u8) sv D) (hl:D.length ≤ 1048000) (ha:at_ ≤ D.length) (hx:xs.length ≤ 1048000) (hg:GrowR G lv xs ν):Con Tryz.prog 63 #[.pointer (some ⟨rb,0,none⟩)] G ((rb,sgO sv (at_:Nat) f lv) :: ν) (NxtR D rb sv at_ f xs):=by
  have q1:=fnext_s hC at_ hs (by omega) ha
  have hbd:=fun b r=>nextF_body (l:=D.drop at_) (b:=b) (r:=r) (fun y hy=>sl_byte hs y (List.mem_of_mem_drop hy))
  unfold NxtR
  unfold NextR at q1
  obtain ⟨A,c,rfl,-⟩:=id hs.openInt
  obtain ⟨css,hcl,hcr,hgr⟩:=id hg
  obtain ⟨Ag,cg,rfl,hgl,hgm⟩:=id hgr.shape
  (refine v_enter Tryz.func63 rfl Tryz.ntmps63 rfl ?_;intro B _)
  repeat' (first|apply v_seq|apply v_region|apply v_nil|(apply v_pure;(case hop=>(apply p_assign <;> rfl));(case hd=>rfl))|fail)
  refine d_start [(rb,sgO (.slice A D.length c) (at_:Nat) f (.slice Ag xs.length cg))] (by kernel_rfl) (by kernel_rfl) (by kernel_rfl) (by intro e he;(simp at he;simp [he];done)) ?_
  all_goals (apply dtk 0;(case hi=>rfl);(case hop=>(apply prd;apply p_move <;> rfl));(case hq=>kernel_rfl))
  all_goals (apply dtk 1;(case hi=>rfl);(case hop=>(apply prd;apply p_nilCheck <;> rfl));(case hq=>kernel_rfl))
  all_goals (apply dtk 2;(case hi=>rfl);(case hop=>(apply prd;apply p_fieldAddrB <;> rfl));(case hq=>kernel_rfl))
  all_goals (apply dtk 3;(case hi=>rfl);(case hop=>first|(apply r_loadNo;(case hx=>rfl);(case h=>(repeat (fail)));(case hd=>(repeat (fail)));(case hn=>rfl))|(apply r_load1;rfl;(apply Cell.own;(case h=>(repeat (exact mhd _)));rfl))|(apply r_loadN;rfl;(apply CellsAt.own;(case h=>(repeat (fail))));rfl));(case hq=>kernel_rfl))
  all_goals (apply dtk 4;(case hi=>rfl);(case hop=>(apply prd;apply p_move <;> rfl));(case hq=>kernel_rfl))
  all_goals (apply dtk 5;(case hi=>rfl);(case hop=>(apply prd;apply p_nilCheck <;> rfl));(case hq=>kernel_rfl))
  all_goals (apply dtk 6;(case hi=>rfl);(case hop=>(apply prd;apply p_fieldAddrB <;> rfl));(case hq=>kernel_rfl))
  all_goals (apply dtk 7;(case hi=>rfl);(case hop=>first|(apply r_loadNo;(case hx=>rfl);(case h=>(repeat (fail)));(case hd=>(repeat (fail)));(case hn=>rfl))|(apply r_load1;rfl;(apply Cell.own;(case h=>(repeat (exact mhd _)));rfl))|(apply r_loadN;rfl;(apply CellsAt.own;(case h=>(repeat (fail))));rfl));(case hq=>kernel_rfl))
  all_goals ((apply d_call 8 (hs:=q1) (μ1:=[]);(case hi=>rfl);(case hr=>kernel_rfl);  (case ha=>rfl);(case hp=>exact List.Perm.refl _);(case hd=>rfl);(case hν'=>intro e he;simp at he;simp [he]);rintro _ G1 _ hle1 ⟨rfl,v,z,e,rfl,hcase⟩))
  all_goals (apply dtk 9;(case hi=>rfl);(case hop=>(apply prd;apply p_move <;> rfl));(case hq=>kernel_rfl))
  all_goals (apply dtk 10;(case hi=>rfl);(case hop=>(apply prd;apply p_extract0 <;> rfl));(case hq=>kernel_rfl))
  all_goals (apply dtk 11;(case hi=>rfl);(case hop=>(apply prd;apply p_extract1 <;> rfl));(case hq=>kernel_rfl))
  all_goals (apply dtk 12;(case hi=>rfl);(case hop=>(apply prd;apply p_extract2 <;> rfl));(case hq=>kernel_rfl))
  all_goals (apply dtk 13;(case hi=>rfl);(case hop=>(apply prd;apply p_assign <;> rfl));(case hq=>kernel_rfl))
  all_goals (apply dtk 14;(case hi=>rfl);(case hop=>(apply prd;apply p_assign <;> rfl));(case hq=>kernel_rfl))
  all_goals (apply dtk 15;(case hi=>rfl);(case hop=>(apply prd;apply p_assign <;> rfl));(case hq=>kernel_rfl))
  all_goals (apply d_done;(case hr=>kernel_rfl))
  obtain ⟨bd,t,hn,sv1,rfl,rfl⟩|⟨hn,he,rfl,rfl⟩:=hcase
  rotate_left
  · repeat' (first|apply v_seq|apply v_region|apply v_nil|(apply v_pure;(case hop=>first|(apply p_move <;> rfl)|(apply p_ne <;> rfl)|(apply p_assign <;> rfl)|fail);(case hd=>rfl))|(apply v_cond;(case hc=>rfl);all_goals (intro h;(try simp only [reduceCtorEq,zzz] at h);first|(exfalso;omega)|skip))|fail)
    refine v_ret _ (outsA1 rfl rfl) (List.Sublist.refl _) ?_
    exact ⟨_,at_,_,ν,xs,rfl,List.Perm.refl _,hg.le hle1,.inl ⟨rfl,rfl,rfl,.inl hn⟩⟩
  obtain ⟨A1,c1,rfl,-⟩:=id sv1.openInt
  have hbl:=hbd _ _ hn
  rw [List.length_drop] at hbl
  repeat' (first|apply v_seq|apply v_region|apply v_nil|apply v_skip|(apply v_pure;(case hop=>first|(apply p_move <;> rfl)|(apply p_nes <;> rfl)|(apply p_fieldAddrB <;> rfl)|(apply p_nilCheck <;> rfl)|fail);(case hd=>rfl))|(apply v_condF;(case hc=>rfl))|(apply v_read;(case hop=>(apply r_load1;rfl;(apply Cell.own;(case h=>(repeat (exact mhd _)));rfl)));(case hd=>rfl))|fail)
  refine v_call (μ1:=[]) rfl (getF_s (hT.le hle1) f sv1 (by omega)) (List.Perm.refl _) rfl ?_
  rintro _ G2 _ hle2 ⟨rfl,x,xv,e,rfl,hxv,hcase⟩
  have hle:=GH.le_trans hle1 hle2
  obtain ⟨iv,rfl,hix⟩:=id hxv
  obtain ⟨Ai,ci,hie,-⟩:=id hix.openInt
  subst hie
  obtain ⟨hd,rfl⟩|⟨hd,he⟩:=hcase
  rotate_left
  · repeat' (first|apply v_seq|apply v_region|apply v_nil|(apply v_pure;(case hop=>first|(apply p_move <;> rfl)|(apply p_ne <;> rfl)|(apply p_assign <;> rfl)|(apply p_extract0 <;> rfl)|(apply p_extract1 <;> rfl)|fail);(case hd=>rfl))|(apply v_cond;(case hc=>rfl);all_goals (intro h;(try simp only [reduceCtorEq,zzz] at h);first|(exfalso;omega)|skip))|(apply v_alloc;(case hz=>rfl);(case hd=>rfl);intro b)|(apply v_store;(case hp=>rfl);(case hx=>rfl);(case hc=>rfl);(case hsz=>rfl);(case h1=>rfl);(case hb=>(repeat (exact mhd _)));(case hfit=>exact nle rfl);(case hov=>((repeat (first|with_reducible exact ov_nil|apply ov_cons));done));(case hu=>repeat (exact Upd.here _ _)))|fail)
    all_goals first
      | (exfalso;omega)
      | (refine v_ret ((rb,sgO _ _ _ _) :: ν) (outsA1 rfl rfl) (by repeat (first|exact List.Sublist.refl _|apply List.Sublist.cons)) ?_
         exact ⟨_,at_,_,ν,xs,rfl,List.Perm.refl _,hg.le hle,.inl ⟨rfl,rfl,rfl,.inr ⟨bd,t,hn,hd⟩⟩⟩)
  obtain ⟨-,-,-,hco,hsm⟩:=decF_inv (fun y hy=>sl_byte sv1 y hy) hd
  repeat' (first|apply v_seq|apply v_region|apply v_nil|apply v_skip|(apply v_pure;(case hop=>first|(apply p_move <;> rfl)|(apply p_nes <;> rfl)|(apply p_assign <;> rfl)|(apply p_extract0 <;> rfl)|(apply p_extract1 <;> rfl)|fail);(case hd=>rfl))|(apply v_condF;(case hc=>rfl))|(apply v_alloc;(case hz=>rfl);(case hd=>rfl);intro b)|(apply v_store;(case hp=>rfl);(case hx=>rfl);(case hc=>rfl);(case hsz=>rfl);(case h1=>rfl);(case hb=>(repeat (exact mhd _)));(case hfit=>exact nle rfl);(case hov=>((repeat (first|with_reducible exact ov_nil|apply ov_cons));done));(case hu=>repeat (exact Upd.here _ _)))|fail)
  revert b
  intro xb
  refine d_start [(xb,.cells #[.int .i64 x.kind,.int .i64 x.round,.int .i64 x.node,.int .i64 x.index,.int .i64 x.cmd.kind,.int .i64 x.cmd.client,.int .i64 x.cmd.seq,.string x.cmd.key,.string x.cmd.val,.string x.cmd.old,.int .i64 x.cmd.node,.slice Ai x.image.length ci] 42 (0,0))] (by kernel_rfl) (by kernel_rfl) (by kernel_rfl) (by intro e he;(simp at he;simp [he];done)) ?_
  all_goals (apply dtk 0;(case hi=>rfl);(case hop=>(apply prd;apply p_move <;> rfl));(case hq=>kernel_rfl))
  all_goals (apply dtk 1;(case hi=>rfl);(case hop=>(apply prd;apply p_move <;> rfl));(case hq=>kernel_rfl))
  all_goals (apply dtk 2;(case hi=>rfl);(case hop=>(apply prd;apply p_nilCheck <;> rfl));(case hq=>kernel_rfl))
  all_goals (apply dtk 3;(case hi=>rfl);(case hop=>(apply prd;apply p_fieldAddrB <;> rfl));(case hq=>kernel_rfl))
  all_goals (apply dtk 5;(case hi=>rfl);(case hop=>first|(apply r_loadNo;(case hx=>rfl);(case h=>(repeat (exact mhd _)));(case hd=>(repeat (first|with_reducible exact dt_nil|apply dt_here)));(case hn=>rfl))|(apply r_load1;rfl;(apply Cell.own;(case h=>(repeat (fail)));rfl))|(apply r_loadN;rfl;(apply CellsAt.own;(case h=>(repeat (fail))));rfl));(case hq=>kernel_rfl))
  focus
    refine d_fork 4 6 (by kernel_rfl) ?_ ?_
    rotate_right
    focus
      (apply x_buildSlice 6;(case hi=>rfl);(case hT=>infer_instance);(case hL=>infer_instance);(case hz=>rfl);(case hl=>rfl);(case hv=>(simp only [List.map_cons,List.map_nil];repeat (first|with_reducible exact evs_nil|(apply evs_cons;(case h1=>rfl)))));(case hp=>(apply pk_cons;(case hc=>rfl);(case hs=>rfl);(case h=>(with_reducible exact pk_nil));(case he=>((repeat (first|with_reducible exact ap_nil|apply ap_cons));done))));(case hb=>rfl);(case hd=>rfl);(case hν=>intro e he;(simp at he;simp [he];done));intro bb)
      all_goals (apply d_keep 4 (hop:=ReadOp.move ?hop);(case hi=>rfl);(case hr=>kernel_rfl);(case hop=>(apply r_load1;rfl;(apply Cell.own;(case h=>repeat (first|exact mhd _|apply mtl));rfl)));(case hd=>rfl))
      all_goals (apply d_append 7 (hg:=hgr) (q':=1) (us:=recL x.kind x.round x.node x.index x.cmd (.slice Ai x.image.length ci)) (hp:=PickA.perm (by repeat (first|exact PickA.last|apply PickA.cons))) (hsrc:=Src.own (e:=42) (by repeat (exact mhd _)) rfl);(case hi=>rfl);(case hr=>kernel_rfl);(case hT=>infer_instance);(case hL=>infer_instance);(case hzs=>rfl);(case hsz=>omega);(case hs=>rfl);(case hx=>rfl);(case hb=>omega);(case hb'=>simp only [maxLen];omega);(case hd=>rfl);(case h1=>rfl);(case hν=>intro e he;(simp at he;simp [he];done));intro v3 n3 hg3;obtain ⟨A3,c3,rfl,-,-⟩:=hg3.shape)
      all_goals (apply dtk 8;(case hi=>rfl);(case hop=>(apply prd;apply p_nilCheck <;> rfl));(case hq=>kernel_rfl))
      all_goals (apply dtk 9;(case hi=>rfl);(case hop=>(apply prd;apply p_fieldAddrB <;> rfl));(case hq=>kernel_rfl))
      all_goals (apply d_store 10;(case hi=>rfl);(case hr=>kernel_rfl);(case hL=>infer_instance);(case hp=>rfl);(case hx=>rfl);(case hc=>rfl);(case hsz=>rfl);(case h1=>rfl);(case hb=>(repeat (first|exact mhd _|apply mtl|apply List.mem_append_right)));(case hfit=>exact nle rfl);(case hov=>((repeat (first|with_reducible exact ov_nil|apply ov_cons));done));(case hu=>repeat (first|exact Upd.here _ _|apply Upd.there|apply Upd.app));(case hν'=>intro e he;(simp at he;simp [he];done)))
      all_goals (apply d_done;(case hr=>kernel_rfl))
    rotate_right
    focus
      (apply x_exec 4;(case hi=>rfl);  (case hop=>exact ReadOp.move (r_load1 rfl (Cell.own (by repeat (first|exact mhd _|apply mtl)) rfl)));(case hd=>rfl);rintro _ G0 _ ⟨rfl,hG0,rfl⟩;subst G0;refine ⟨(by intro e he;simp at he;simp [he]),?_⟩)
      all_goals (apply d_buildSlice 6;(case hi=>rfl);(case hr=>kernel_rfl);(case hT=>infer_instance);(case hL=>infer_instance);(case hz=>rfl);(case hl=>rfl);(case hv=>(simp only [List.map_cons,List.map_nil];repeat (first|with_reducible exact evs_nil|(apply evs_cons;(case h1=>rfl)))));(case hp=>(apply pk_cons;(case hc=>rfl);(case hs=>rfl);(case h=>(with_reducible exact pk_nil));(case he=>((repeat (first|with_reducible exact ap_nil|apply ap_cons));done))));(case hb=>rfl);(case hd=>rfl);(case hν=>intro e he;(simp at he;simp [he];done));intro bb)
      all_goals (apply d_append 7 (hg:=hgr) (q':=1) (us:=recL x.kind x.round x.node x.index x.cmd (.slice Ai x.image.length ci)) (hp:=PickA.perm (by repeat (first|exact PickA.last|apply PickA.cons))) (hsrc:=Src.own (e:=42) (by repeat (exact mhd _)) rfl);(case hi=>rfl);(case hr=>kernel_rfl);(case hT=>infer_instance);(case hL=>infer_instance);(case hzs=>rfl);(case hsz=>omega);(case hs=>rfl);(case hx=>rfl);(case hb=>omega);(case hb'=>simp only [maxLen];omega);(case hd=>rfl);(case h1=>rfl);(case hν=>intro e he;(simp at he;simp [he];done));intro v3 n3 hg3;obtain ⟨A3,c3,rfl,-,-⟩:=hg3.shape)
      all_goals (apply dtk 8;(case hi=>rfl);(case hop=>(apply prd;apply p_nilCheck <;> rfl));(case hq=>kernel_rfl))
      all_goals (apply dtk 9;(case hi=>rfl);(case hop=>(apply prd;apply p_fieldAddrB <;> rfl));(case hq=>kernel_rfl))
      all_goals (apply d_store 10;(case hi=>rfl);(case hr=>kernel_rfl);(case hL=>infer_instance);(case hp=>rfl);(case hx=>rfl);(case hc=>rfl);(case hsz=>rfl);(case h1=>rfl);(case hb=>(repeat (first|exact mhd _|apply mtl|apply List.mem_append_right)));(case hfit=>exact nle rfl);(case hov=>((repeat (first|with_reducible exact ov_nil|apply ov_cons));done));(case hu=>repeat (first|exact Upd.here _ _|apply Upd.there|apply Upd.app));(case hν'=>intro e he;(simp at he;simp [he];done)))
      all_goals (apply d_done;(case hr=>kernel_rfl))
  all_goals
    repeat' (first|apply v_seq|apply v_region|apply v_nil|(apply v_pure;(case hop=>first|(apply p_move <;> rfl)|(apply p_assign <;> rfl)|(apply p_fieldAddrB <;> rfl)|(apply p_nilCheck <;> rfl)|fail);(case hd=>rfl))|(apply v_store;(case hp=>rfl);(case hx=>rfl);(case hc=>rfl);(case hsz=>rfl);(case h1=>rfl);(case hb=>(repeat (first|exact mhd _|apply mtl|apply List.mem_append_right)));(case hfit=>exact nle rfl);(case hov=>((repeat (first|with_reducible exact ov_nil|apply ov_cons));done));(case hu=>repeat (first|exact Upd.here _ _|apply Upd.there|apply Upd.app)))|fail)
    refine v_ret (n3 ++ [(rb,sgO (.slice A D.length c) ((D.length - t.length:Nat):Int) f (.slice A3 (xs.length + 1) c3))]) (outsA1 rfl rfl) (List.Sublist.append_left (by repeat (first|exact List.Sublist.refl _|apply List.Sublist.cons)) _) ?_
    exact ⟨_,D.length - t.length,_,n3,xs ++ [x],rfl,List.perm_append_singleton _ _,GrowR.snoc hcl (fun i y cs h1 h2=>(hcr i y cs h1 h2).le hle) hg3 ⟨_,rfl,hco,hsm,hix⟩,.inr ⟨rfl,bd,t,x,hn,hd,rfl,rfl⟩⟩
theorem more_s {G:GH} {D:List Int} {sv lv:Value} (rb ib pb at_:Nat) (f:Int) {xs:List Rc} {ν:OH} (is:Bool) (q:Con Tryz.prog 63 #[.pointer (some ⟨rb,0,none⟩)] G ((rb,sgO sv (at_:Nat) f lv) :: ν) (NxtR D rb sv at_ f xs)) :
    Con Tryz.prog 62 #[.pointer (some ⟨ib,0,none⟩),.pointer (some ⟨pb,0,none⟩)] G ([(ib,.cells #[.bool is] 4 (0,0)),(pb,.cells #[.pointer (some ⟨rb,0,none⟩)] 104 (0,0))] ++ (rb,sgO sv (at_:Nat) f lv) :: ν) (fun r G' μ'=>∃ ν',μ'.Perm ([(ib,.cells #[.bool is] 4 (0,0)),(pb,.cells #[.pointer (some ⟨rb,0,none⟩)] 104 (0,0))] ++ ν') ∧ ((is = false ∧ r = .bool false ∧ G' = G ∧ ν' = (rb,sgO sv (at_:Nat) f lv) :: ν) ∨ (is = true ∧ NxtR D rb sv at_ f xs r G' ν'))):=by
  (refine v_enter Tryz.func62 rfl Tryz.ntmps62 rfl ?_;intro B _)
  cases is
  · repeat' (first|apply v_seq|apply v_region|apply v_nil|(apply v_pass;(case hg=>rfl);(case hn=>rfl);(case hd=>rfl))|(apply v_pure;(case hop=>first|(apply p_move <;> rfl)|(apply p_assign <;> rfl)|(apply p_pickF <;> rfl)|fail);(case hd=>rfl))|(apply v_read;(case hop=>(apply r_load1;rfl;(apply Cell.own;(case h=>(repeat (exact mhd _)));rfl)));(case hd=>rfl))|fail)
    exact v_ret _ (outsA1 rfl rfl) (List.Sublist.refl _) ⟨_,List.Perm.refl _,.inl ⟨rfl,rfl,rfl,rfl⟩⟩
  · repeat' (first|apply v_seq|apply v_region|apply v_nil|(apply v_take;(case hg=>rfl))|(apply v_pure;(case hop=>first|(apply p_move <;> rfl)|(apply p_assign <;> rfl)|fail);(case hd=>rfl))|(apply v_read;(case hop=>(apply r_load1;rfl;(apply Cell.own;(case h=>(repeat (first|exact mhd _|apply mtl)));rfl)));(case hd=>rfl))|fail)
    refine v_call (μ1:=(rb,sgO sv (at_:Nat) f lv) :: ν) rfl q List.perm_append_comm rfl ?_
    rintro _ G1 ν1 - ⟨ok,at',lv',ν',xs',rfl,hp,hg,hc⟩
    repeat' (first|apply v_nil|(apply v_pure;(case hop=>first|(apply p_assign <;> rfl)|(apply p_pickT <;> rfl)|fail);(case hd=>rfl))|fail)
    exact v_ret _ (outsA1 rfl rfl) (List.Sublist.refl _) ⟨ν1,List.perm_append_comm,.inr ⟨rfl,ok,at',lv',ν',xs',rfl,hp,hg,hc⟩⟩
section
attribute [local semireducible] Vc DVc Con PureOp ReadOp MoveOp
theorem d_fork3 {P:Program} {fn:Func} {n:Nat} {B:Base} {Φ:Value → GH → OH → Prop} {k:List It} {σ:Env} {G G0:GH} {μ:OH} {all:Array Oper} {m:Nat} {listed:Array Bool} {ν:OH} (i j l:Nat) (hr:Region.ready .any all listed = [i,j,l]) (h1:DX P fn n B Φ all G0 ν m listed k σ G μ i) (h2:DX P fn n B Φ all G0 ν m listed k σ G μ j) (h3:DX P fn n B Φ all G0 ν m listed k σ G μ l):DVc P fn n B Φ all G0 ν (m + 1) listed k σ G μ:=by
  intro hsel hle hν w hw a ha
  refine wpAnyH_all hr (by simp) fun x hx=>?_
  simp only [List.mem_cons,List.mem_singleton,List.not_mem_nil,or_false] at hx
  obtain rfl|rfl|rfl:=hx
  · exact h1 hsel hle hν w hw a ha
  · exact h2 hsel hle hν w hw a ha
  · exact h3 hsel hle hν w hw a ha
end
end Go.Proofs.YtpemabgfmnhhnaaGreatDoor
/-
  segm.Read.
-/
set_option linter.unusedSimpArgs false
set_option linter.unusedVariables false
namespace Go.Proofs.YtpemabgfmnhhnaaGreatDoor
open Go.Vx Go.ChangeShapes Go.WideShapes Go.ChangeAt Go.RowKit
section
variable {α:Type} (dec:List Int → Option α)
theorem recsF_step {D:Nat} {l b t:List Int} {x:α} (hw:byteL l) (hl:l.length ≤ D) (h:nextF l = some (b,t)) (hd:dec b = some x):recsF dec D l = (x :: (recsF dec D t).1,(recsF dec D t).2):=by
  obtain ⟨e,-⟩:=nextF_inv hw h
  have h1:=congrArg List.length e
  have h2:=frB_pos b
  rw [List.length_append] at h1
  obtain ⟨n,rfl⟩:∃ n,D = n + 1:=⟨D - 1,by omega⟩
  have hr:byteL t:=fun y hy=>hw y (by rw [e];exact List.mem_append_right _ hy)
  rw [recsF_some dec h hd,recsF_fuel dec n (n + 1) t hr (by omega) (by omega)]
end
theorem next_drop {D b t:List Int} {a:Nat} (hw:byteL D) (h:nextF (D.drop a) = some (b,t)):t = D.drop (D.length - t.length) ∧ D.length - t.length ≤ D.length ∧ t.length < D.length - a:=by
  obtain ⟨e,-⟩:=nextF_inv (fun y hy=>hw y (List.mem_of_mem_drop hy)) h
  have h1:=congrArg List.length e
  have h2:=frB_pos b
  rw [List.length_append,List.length_drop] at h1
  refine ⟨?_,by omega,by omega⟩
  have h3:(D.drop a).drop (frB b).length = t:=by rw [e,List.drop_left]
  rw [List.drop_drop] at h3
  rw [show D.length - t.length = a + (frB b).length by omega]
  exact h3.symm
def ctL (f:Int) (L:List Value) (k b:Int):List Value:=.int .i64 f :: (L ++ [.int .i64 k,.int .i64 b])
def ReadR (D:List Int) (r:Value) (G':GH) (μ':OH):Prop:=μ' = [] ∧ ((readF decF D = none ∧ r = .tuple [.agg (ctL 0 (hdL 0 0 0 (.slice none 0 0) (.slice none 0 0) (.slice none 0 0)) 0 0).toArray,.int .i64 17].toArray) ∨ ∃ f xs k L,readF decF D = some (f,xs,k) ∧ r = .tuple [.agg (ctL f L (xs.length:Nat) (k:Nat)).toArray,.int .i64 0].toArray ∧ HdV G' (hardOf xs) L)
set_option maxHeartbeats 1000000 in
theorem sread_s {G:GH} (hT:TabsG G) (hC:CrcG G) {D:List Int} {sv:Value} (hs:Sl G 1 (IntR .u8) sv D) (hl:D.length ≤ 1048000) (hfew:∀ f xs k,readF decF D = some (f,xs,k) → xs.length ≤ 200):Con Tryz.prog 21 #[sv] G [] (ReadR D):=by
  have hw:byteL D:=fun y hy=>sl_byte hs y hy
  obtain ⟨A,c,rfl,-⟩:=id hs.openInt
  (refine v_enter Tryz.func21 rfl Tryz.ntmps21 rfl ?_;intro B _)
  repeat' (first|apply v_seq|apply v_region|apply v_nil|(apply v_pure;(case hop=>first|(apply p_move <;> rfl)|(apply p_assign <;> rfl)|(apply p_build;(case hz=>rfl);(case hv=>(simp only [List.map_cons,List.map_nil];repeat (first|with_reducible exact evs_nil|(apply evs_cons;(case h1=>rfl)))));(case hb=>(apply bldL;repeat (first|exact bld_nil|(apply bld_cons;(case hpf=>rfl);(case hc=>rfl);(case hs=>rfl);(case hl=>rfl);(case ho=>((repeat (first|with_reducible exact ov_nil|apply ov_cons));done)))))))|fail);(case hd=>rfl))|(apply v_read;(case hop=>(apply r_load1;rfl;(apply Cell.own;(case h=>(repeat (exact mhd _)));rfl)));(case hd=>rfl))|(apply v_alloc;(case hz=>rfl);(case hd=>rfl);intro b)|(apply v_box;(case hx=>rfl);(case hz=>rfl);(case hd=>rfl);intro b)|(apply v_store;(case hp=>rfl);(case hx=>rfl);(case hc=>rfl);(case hsz=>rfl);(case h1=>rfl);(case hb=>(repeat (exact mhd _)));(case hfit=>exact nle rfl);(case hov=>((repeat (first|with_reducible exact ov_nil|apply ov_cons));done));(case hu=>repeat (exact Upd.here _ _)))|fail)
  rename_i cb rb
  revert b
  intro pb
  refine v_call (μ1:=[(rb,sgO (.slice A D.length c) 0 0 (.slice none 0 0))]) rfl (begin_s hC rb hs hl) (PickA.perm (by repeat (first|exact PickA.here _|apply PickA.cons))) rfl ?_
  rintro _ G1 _ hle1 ⟨a0,f,n,is,ha0,rfl,rfl,hbeg⟩
  have hbeg':is = true → ∃ hd,nextF D = some (hd,D.drop a0) ∧ f = (headF D.length hd).1 ∧ n = (headF D.length hd).2.1 ∧ (headF D.length hd).2.2 = true ∧ ((headF D.length hd).1 = 1 ∨ (headF D.length hd).1 = 2):=fun his=>by
    obtain ⟨-,h⟩|⟨hd,t,hn,h1,h2,h3,h4⟩:=hbeg
    · rw [his] at h;cases h
    · obtain ⟨h5,-,-⟩:=next_drop (D:=D) (a:=0) hw (by rw [List.drop_zero];exact hn)
      rw [← h1] at h5
      rw [his] at h4
      have:=of_decide_eq_true h4.symm
      exact ⟨hd,by rw [← h5];exact hn,h2,h3,this.1,this.2⟩
  have hno:is = false → readF decF D = none:=fun his=>by
    obtain ⟨hn,-⟩|⟨hd,t,hn,h1,h2,h3,h4⟩:=hbeg
    · exact readF_none decF hn
    · rw [his] at h4
      have:=of_decide_eq_false h4.symm
      rw [readF_some decF hn,if_neg fun h=>this ⟨h.1,h.2.1⟩]
  repeat' (first|apply v_seq|apply v_region|apply v_nil|apply v_block|(apply v_pure;(case hop=>first|(apply p_move <;> rfl)|(apply p_assign <;> rfl)|(apply p_extract0 <;> rfl)|(apply p_extract1 <;> rfl)|(apply p_makeFunc <;> rfl)|fail);(case hd=>rfl))|(apply v_alloc;(case hz=>rfl);(case hd=>rfl);intro b)|(apply v_store;(case hp=>rfl);(case hx=>rfl);(case hc=>rfl);(case hsz=>rfl);(case h1=>rfl);(case hb=>(repeat (exact mhd _)));(case hfit=>exact nle rfl);(case hov=>((repeat (first|with_reducible exact ov_nil|apply ov_cons));done));(case hu=>repeat (exact Upd.here _ _)))|fail)
  revert b
  intro ib
  refine v_perm (ν:=([(ib,.cells #[.bool is] 4 (0,0)),(pb,.cells #[.pointer (some ⟨rb,0,none⟩)] 104 (0,0))] ++ (rb,sgO (.slice A D.length c) (a0:Nat) f (.slice none 0 0)) :: []) ++ [(cb,.cells (ctL 0 (hdL 0 0 0 (.slice none 0 0) (.slice none 0 0) (.slice none 0 0)) 0 0).toArray 50 (0,0))]) (by apply perm_of_count;intro p;simp only [List.append_eq,List.countP_append,List.countP_cons,List.countP_nil,Nat.zero_add,Nat.add_zero];try ac_rfl) ?_
  refine v_loopI (ι:=Nat) [7,6,5,4,2] (fun a us G' μ'=>GH.le G1 G' ∧ a ≤ D.length ∧ ∃ (lv:Value) (xs:List Rc) (ν:OH),us = [.func (.func 62) #[] #[.pointer (some ⟨ib,0,none⟩),.pointer (some ⟨pb,0,none⟩)],.pointer (some ⟨ib,0,none⟩),.int .i64 n,.pointer (some ⟨pb,0,none⟩),.pointer (some ⟨cb,0,none⟩)] ∧ μ' = ([(ib,.cells #[.bool is] 4 (0,0)),(pb,.cells #[.pointer (some ⟨rb,0,none⟩)] 104 (0,0))] ++ (rb,sgO (.slice A D.length c) (a:Nat) f lv) :: ν) ++ [(cb,.cells (ctL 0 (hdL 0 0 0 (.slice none 0 0) (.slice none 0 0) (.slice none 0 0)) 0 0).toArray 50 (0,0))] ∧ GrowR G' lv xs ν ∧ xs.length ≤ a ∧ recsF (decF f) D.length (D.drop a0) = (xs ++ (recsF (decF f) D.length (D.drop a)).1,(recsF (decF f) D.length (D.drop a)).2)) (fun a=>D.length - a) rfl a0 ⟨GH.le_refl _,ha0,_,[],[],rfl,rfl,GrowR.none _,Nat.zero_le _,rfl⟩ ?_
  rintro a us G' μ' ⟨hle,ha,lv,xs,ν,rfl,rfl,hg,hxa,hrec⟩
  have hle':=GH.le_trans hle1 hle
  have q:=more_s rb ib pb a f is (next_s (hT.le hle') (hC.le hle') rb a f (hs.mono hle') hl ha (by omega) hg)
  obtain ⟨Ag,cg,rfl,-,-⟩:∃ A c,lv = .slice A xs.length c ∧ True ∧ True:=by
    obtain ⟨css,-,-,hgr⟩:=id hg
    obtain ⟨A,c,h,-⟩:=hgr.shape
    exact ⟨A,c,h,trivial,trivial⟩
  repeat' (first|apply v_seq|apply v_region|(apply v_pure;(case hop=>(apply p_move <;> rfl));(case hd=>rfl))|fail)
  refine v_callC (first:=[]) (captured:=[.pointer (some ⟨ib,0,none⟩),.pointer (some ⟨pb,0,none⟩)]) (vs:=[]) rfl rfl q (List.Perm.refl _) rfl ?_
  rintro r G2 ν2 hle2 ⟨ν3,hp,hcase⟩
  refine v_perm (hp.append_right _) ?_
  obtain ⟨his,rfl,hG2,rfl⟩|⟨his,ok,a',lv',ν',xs',rfl,hp',hg',⟨rfl,rfl,rfl,hend⟩|⟨rfl,bd,t,x,hn,hd,rfl,rfl⟩⟩:=hcase
  · have hnone:=hno his
    subst his
    repeat' (first|apply v_seq|apply v_region|apply v_nil|(apply v_exit;(case hp=>rfl))|(apply v_pass;(case hg=>rfl);(case hn=>rfl);(case hd=>rfl))|(apply v_pure;(case hop=>first|(apply p_move <;> rfl)|(apply p_assign <;> rfl)|(apply p_pickT <;> rfl)|(apply p_not <;> rfl)|(apply p_build;(case hz=>rfl);(case hv=>(simp only [List.map_cons,List.map_nil];repeat (with_reducible exact evs_nil)));(case hb=>(apply bldL;repeat (exact bld_nil))))|fail);(case hd=>rfl))|(apply v_condT;(case hc=>rfl))|(apply v_condF;(case hc=>rfl))|(apply v_read;(case hop=>(apply r_load1;rfl;(apply Cell.own;(case h=>(repeat (exact mhd _)));rfl)));(case hd=>rfl))|(apply v_store;(case hp=>rfl);(case hx=>rfl);(case hc=>rfl);(case hsz=>rfl);(case h1=>rfl);(case hb=>(repeat (first|exact mhd _|apply mtl|apply List.mem_append_right)));(case hfit=>exact nle rfl);(case hov=>((repeat (first|with_reducible exact ov_nil|apply ov_cons));done));(case hu=>repeat (first|exact Upd.here _ _|apply Upd.there|apply Upd.app)))|fail)
    refine v_retM [] (outsM_cell_tmp (vs:=ctL 0 (hdL 0 0 0 (.slice none 0 0) (.slice none 0 0) (.slice none 0 0)) 0 0) (e:=50) rfl rfl rfl (by repeat (first|exact mhd _|apply mtl|apply List.mem_append_right)) rfl) (by repeat (exact List.nil_sublist _)) ?_
    exact ⟨rfl,.inl ⟨hnone,rfl⟩⟩
  · obtain ⟨hd,hnx,hf,hn,hh1,hh2⟩:=hbeg' his
    subst his
    have hstop:recsF (decF f) D.length (D.drop a') = ([],D.drop a'):=by
      obtain h|⟨bd,t,h,h'⟩:=hend
      · exact recsF_none (decF f) h
      · exact recsF_bad (decF f) h h'
    rw [hstop,List.append_nil] at hrec
    have hR:readF decF D = if n ≤ (xs'.length:Int) then some (f,xs',a') else none:=by
      rw [readF_some decF hnx,← hf,hrec]
      simp only [hh1,true_and,← hn]
      have hl2:D.length - (D.drop a').length = a':=by rw [List.length_drop];omega
      rw [hl2]
      by_cases h:n ≤ (xs'.length:Int)
      · rw [if_pos h,if_pos ⟨by rw [hf];exact hh2,h⟩]
      · rw [if_neg h,if_neg fun hh=>h hh.2]
    refine v_perm ((hp'.append_left _).append_right _) ?_
    obtain ⟨Ag,cg,rfl,-,-⟩:∃ A c,lv' = .slice A xs'.length c ∧ True ∧ True:=by
      obtain ⟨css,-,-,hgr⟩:=id hg'
      obtain ⟨A,c,h,-⟩:=hgr.shape
      exact ⟨A,c,h,trivial,trivial⟩
    repeat' (first|apply v_seq|apply v_region|apply v_nil|apply v_skip|(apply v_exit;(case hp=>rfl))|(apply v_take;(case hg=>rfl))|(apply v_pure;(case hop=>first|(apply p_move <;> rfl)|(apply p_lt <;> rfl)|(apply p_assign <;> rfl)|(apply p_pickF <;> rfl)|(apply p_not <;> rfl)|(apply p_lenSlice <;> rfl)|(apply p_fieldAddrB <;> rfl)|(apply p_nilCheck <;> rfl)|(apply p_build;(case hz=>rfl);(case hv=>(simp only [List.map_cons,List.map_nil];repeat (with_reducible exact evs_nil)));(case hb=>(apply bldL;repeat (exact bld_nil))))|fail);(case hd=>rfl))|(apply v_condF;(case hc=>rfl))|(apply v_cond;(case hc=>rfl);all_goals (intro h;(try simp only [reduceCtorEq,zzz] at h)))|(apply v_read;(case hop=>(apply r_load1;rfl;(apply Cell.own;(case h=>(repeat (first|exact mhd _|apply mtl)));rfl)));(case hd=>rfl))|(apply v_store;(case hp=>rfl);(case hx=>rfl);(case hc=>rfl);(case hsz=>rfl);(case h1=>rfl);(case hb=>(repeat (first|exact mhd _|apply mtl|apply List.mem_append_right)));(case hfit=>exact nle rfl);(case hov=>((repeat (first|with_reducible exact ov_nil|apply ov_cons));done));(case hu=>repeat (first|exact Upd.here _ _|apply Upd.there|apply Upd.app)))|fail)
    · refine v_retM [] (outsM_cell_tmp (vs:=ctL 0 (hdL 0 0 0 (.slice none 0 0) (.slice none 0 0) (.slice none 0 0)) 0 0) (e:=50) rfl rfl rfl (by repeat (first|exact mhd _|apply mtl|apply List.mem_append_right)) rfl) (by repeat (exact List.nil_sublist _)) ?_
      exact ⟨rfl,.inl ⟨by rw [hR,if_neg (by omega)],rfl⟩⟩
    · have hR':readF decF D = some (f,xs',a'):=by rw [hR,if_pos (by omega)]
      have h200:=hfew _ _ _ hR'
      refine v_frz ν' (by repeat (first|exact PickA.here _|apply PickA.cons)) ?_
      intro G3 hle3 hG3
      have hrs:=hg'.rs hle3 hG3
      have qo:=of_s (hT.le (GH.le_trans (GH.le_trans hle' hle2) hle3)) hrs h200
      refine d_start [(pb,.cells #[.pointer (some ⟨rb,0,none⟩)] 104 (0,0))] (by kernel_rfl) (by kernel_rfl) (by kernel_rfl) (by intro e he;(simp at he;simp [he];done)) ?_
      all_goals (apply dtk 0;(case hi=>rfl);(case hop=>first|(apply r_loadNo;(case hx=>rfl);(case h=>(repeat (fail)));(case hd=>(repeat (fail)));(case hn=>rfl))|(apply r_load1;rfl;(apply Cell.own;(case h=>(repeat (exact mhd _)));rfl))|(apply r_loadN;rfl;(apply CellsAt.own;(case h=>(repeat (fail))));rfl));(case hq=>kernel_rfl))
      all_goals (apply dtk 1;(case hi=>rfl);(case hop=>first|(apply r_loadNo;(case hx=>rfl);(case h=>(repeat (fail)));(case hd=>(repeat (fail)));(case hn=>rfl))|(apply r_load1;rfl;(apply Cell.own;(case h=>(repeat (exact mhd _)));rfl))|(apply r_loadN;rfl;(apply CellsAt.own;(case h=>(repeat (fail))));rfl));(case hq=>kernel_rfl))
      all_goals (apply dtk 2;(case hi=>rfl);(case hop=>first|(apply r_loadNo;(case hx=>rfl);(case h=>(repeat (fail)));(case hd=>(repeat (fail)));(case hn=>rfl))|(apply r_load1;rfl;(apply Cell.own;(case h=>(repeat (exact mhd _)));rfl))|(apply r_loadN;rfl;(apply CellsAt.own;(case h=>(repeat (fail))));rfl));(case hq=>kernel_rfl))
      all_goals (apply dtk 3;(case hi=>rfl);(case hop=>first|(apply r_loadNo;(case hx=>rfl);(case h=>(repeat (fail)));(case hd=>(repeat (fail)));(case hn=>rfl))|(apply r_load1;rfl;(apply Cell.own;(case h=>(repeat (exact mhd _)));rfl))|(apply r_loadN;rfl;(apply CellsAt.own;(case h=>(repeat (fail))));rfl));(case hq=>kernel_rfl))
      all_goals (apply dtk 4;(case hi=>rfl);(case hop=>(apply prd;apply p_nilCheck <;> rfl));(case hq=>kernel_rfl))
      all_goals (apply dtk 5;(case hi=>rfl);(case hop=>(apply prd;apply p_fieldAddrB <;> rfl));(case hq=>kernel_rfl))
      all_goals (apply dtk 8;(case hi=>rfl);(case hop=>first|(apply r_loadNo;(case hx=>rfl);(case h=>(repeat (fail)));(case hd=>(repeat (fail)));(case hn=>rfl))|(apply r_load1;rfl;(apply Cell.own;(case h=>(repeat (exact mhd _)));rfl))|(apply r_loadN;rfl;(apply CellsAt.own;(case h=>(repeat (fail))));rfl));(case hq=>kernel_rfl))
      all_goals (apply dtk 9;(case hi=>rfl);(case hop=>(apply prd;apply p_nilCheck <;> rfl));(case hq=>kernel_rfl))
      all_goals (apply dtk 10;(case hi=>rfl);(case hop=>(apply prd;apply p_fieldAddrB <;> rfl));(case hq=>kernel_rfl))
      all_goals (apply dtk 13;(case hi=>rfl);(case hop=>first|(apply r_loadNo;(case hx=>rfl);(case h=>(repeat (fail)));(case hd=>(repeat (fail)));(case hn=>rfl))|(apply r_load1;rfl;(apply Cell.own;(case h=>(repeat (exact mhd _)));rfl))|(apply r_loadN;rfl;(apply CellsAt.own;(case h=>(repeat (fail))));rfl));(case hq=>kernel_rfl))
      all_goals (apply dtk 14;(case hi=>rfl);(case hop=>(apply prd;apply p_nilCheck <;> rfl));(case hq=>kernel_rfl))
      all_goals (apply dtk 15;(case hi=>rfl);(case hop=>(apply prd;apply p_fieldAddrB <;> rfl));(case hq=>kernel_rfl))
      focus
        refine d_fork3 6 11 16 (by kernel_rfl) ?_ ?_ ?_
        rotate_right
        focus
          (apply x_exec 16;(case hi=>rfl);  (case hop=>exact ReadOp.move (r_load1 rfl (Cell.own (by repeat (first|exact mhd _|apply mtl)) rfl)));(case hd=>rfl);rintro _ G0 _ ⟨rfl,hG0,rfl⟩;subst G0;refine ⟨(by intro e he;simp at he;simp [he]),?_⟩)
          focus
            refine d_fork 6 11 (by kernel_rfl) ?_ ?_
            rotate_right
            focus
              (apply x_exec 11;(case hi=>rfl);  (case hop=>exact ReadOp.move (r_load1 rfl (Cell.own (by repeat (first|exact mhd _|apply mtl)) rfl)));(case hd=>rfl);rintro _ G0 _ ⟨rfl,hG0,rfl⟩;subst G0;refine ⟨(by intro e he;simp at he;simp [he]),?_⟩)
              all_goals (apply dtk 12;(case hi=>rfl);(case hop=>(apply prd;apply p_lenSlice <;> rfl));(case hq=>kernel_rfl))
              all_goals (apply d_keep 6 (hop:=ReadOp.move ?hop);(case hi=>rfl);(case hr=>kernel_rfl);(case hop=>(apply r_load1;rfl;(apply Cell.own;(case h=>repeat (first|exact mhd _|apply mtl));rfl)));(case hd=>rfl))
              all_goals ((apply d_call 7 (hs:=qo) (μ1:=[]);(case hi=>rfl);(case hr=>kernel_rfl);  (case ha=>rfl);(case hp=>exact List.Perm.refl _);(case hd=>rfl);(case hν'=>intro e he;simp at he;simp [he]);rintro _ G4 _ hle4 ⟨rfl,L,rfl,iv,av,cv,rfl,hi,hac,hch⟩;obtain ⟨B0,d0,rfl,-⟩:=id hi.openInt;obtain ⟨B1,d1,rfl,-⟩:=id hac.open;obtain ⟨B2,d2,rfl,-⟩:=id hch.open))
              all_goals (apply dtk 17;(case hi=>rfl);(case hop=>(apply prd;apply p_nilCheck <;> rfl));(case hq=>kernel_rfl))
              all_goals (apply dtk 18;(case hi=>rfl);(case hop=>(apply prd;apply p_fieldAddrB <;> rfl));(case hq=>kernel_rfl))
              all_goals (apply dtk 19;(case hi=>rfl);(case hop=>(apply prd;apply p_fieldAddrB <;> rfl));(case hq=>kernel_rfl))
              all_goals (apply d_store 20;(case hi=>rfl);(case hr=>kernel_rfl);(case hL=>infer_instance);(case hp=>rfl);(case hx=>rfl);(case hc=>rfl);(case hsz=>rfl);(case h1=>rfl);(case hb=>(repeat (first|exact mhd _|apply mtl)));(case hfit=>exact nle rfl);(case hov=>((repeat (first|with_reducible exact ov_nil|apply ov_cons));done));(case hu=>repeat (first|exact Upd.here _ _|apply Upd.there));(case hν'=>intro e he;(simp at he;simp [he];done)))
              all_goals (apply dtk 21;(case hi=>rfl);(case hop=>(apply prd;apply p_nilCheck <;> rfl));(case hq=>kernel_rfl))
              all_goals (apply dtk 22;(case hi=>rfl);(case hop=>(apply prd;apply p_fieldAddrB <;> rfl));(case hq=>kernel_rfl))
              all_goals (apply dtk 23;(case hi=>rfl);(case hop=>(apply prd;apply p_fieldAddrB <;> rfl));(case hq=>kernel_rfl))
              all_goals (apply d_store 24;(case hi=>rfl);(case hr=>kernel_rfl);(case hL=>infer_instance);(case hp=>rfl);(case hx=>rfl);(case hc=>rfl);(case hsz=>rfl);(case h1=>rfl);(case hb=>(repeat (first|exact mhd _|apply mtl)));(case hfit=>exact nle rfl);(case hov=>((repeat (first|with_reducible exact ov_nil|apply ov_cons));done));(case hu=>repeat (first|exact Upd.here _ _|apply Upd.there));(case hν'=>intro e he;(simp at he;simp [he];done)))
              all_goals (apply dtk 25;(case hi=>rfl);(case hop=>(apply prd;apply p_nilCheck <;> rfl));(case hq=>kernel_rfl))
              all_goals (apply dtk 26;(case hi=>rfl);(case hop=>(apply prd;apply p_fieldAddrB <;> rfl));(case hq=>kernel_rfl))
              all_goals (apply dtk 27;(case hi=>rfl);(case hop=>(apply prd;apply p_fieldAddrB <;> rfl));(case hq=>kernel_rfl))
              all_goals (apply d_store 28;(case hi=>rfl);(case hr=>kernel_rfl);(case hL=>infer_instance);(case hp=>rfl);(case hx=>rfl);(case hc=>rfl);(case hsz=>rfl);(case h1=>rfl);(case hb=>(repeat (first|exact mhd _|apply mtl)));(case hfit=>exact nle rfl);(case hov=>((repeat (first|with_reducible exact ov_nil|apply ov_cons));done));(case hu=>repeat (first|exact Upd.here _ _|apply Upd.there));(case hν'=>intro e he;(simp at he;simp [he];done)))
              all_goals (apply d_done;(case hr=>kernel_rfl))
            rotate_right
            focus
              (apply x_exec 6;(case hi=>rfl);  (case hop=>exact ReadOp.move (r_load1 rfl (Cell.own (by repeat (first|exact mhd _|apply mtl)) rfl)));(case hd=>rfl);rintro _ G0 _ ⟨rfl,hG0,rfl⟩;subst G0;refine ⟨(by intro e he;simp at he;simp [he]),?_⟩)
              focus
                refine d_fork 7 11 (by kernel_rfl) ?_ ?_
                rotate_right
                focus
                  (apply x_exec 11;(case hi=>rfl);  (case hop=>exact ReadOp.move (r_load1 rfl (Cell.own (by repeat (first|exact mhd _|apply mtl)) rfl)));(case hd=>rfl);rintro _ G0 _ ⟨rfl,hG0,rfl⟩;subst G0;refine ⟨(by intro e he;simp at he;simp [he]),?_⟩)
                  all_goals (apply dtk 12;(case hi=>rfl);(case hop=>(apply prd;apply p_lenSlice <;> rfl));(case hq=>kernel_rfl))
                  all_goals ((apply d_call 7 (hs:=qo) (μ1:=[]);(case hi=>rfl);(case hr=>kernel_rfl);  (case ha=>rfl);(case hp=>exact List.Perm.refl _);(case hd=>rfl);(case hν'=>intro e he;simp at he;simp [he]);rintro _ G4 _ hle4 ⟨rfl,L,rfl,iv,av,cv,rfl,hi,hac,hch⟩;obtain ⟨B0,d0,rfl,-⟩:=id hi.openInt;obtain ⟨B1,d1,rfl,-⟩:=id hac.open;obtain ⟨B2,d2,rfl,-⟩:=id hch.open))
                  all_goals (apply dtk 17;(case hi=>rfl);(case hop=>(apply prd;apply p_nilCheck <;> rfl));(case hq=>kernel_rfl))
                  all_goals (apply dtk 18;(case hi=>rfl);(case hop=>(apply prd;apply p_fieldAddrB <;> rfl));(case hq=>kernel_rfl))
                  all_goals (apply dtk 19;(case hi=>rfl);(case hop=>(apply prd;apply p_fieldAddrB <;> rfl));(case hq=>kernel_rfl))
                  all_goals (apply d_store 20;(case hi=>rfl);(case hr=>kernel_rfl);(case hL=>infer_instance);(case hp=>rfl);(case hx=>rfl);(case hc=>rfl);(case hsz=>rfl);(case h1=>rfl);(case hb=>(repeat (first|exact mhd _|apply mtl)));(case hfit=>exact nle rfl);(case hov=>((repeat (first|with_reducible exact ov_nil|apply ov_cons));done));(case hu=>repeat (first|exact Upd.here _ _|apply Upd.there));(case hν'=>intro e he;(simp at he;simp [he];done)))
                  all_goals (apply dtk 21;(case hi=>rfl);(case hop=>(apply prd;apply p_nilCheck <;> rfl));(case hq=>kernel_rfl))
                  all_goals (apply dtk 22;(case hi=>rfl);(case hop=>(apply prd;apply p_fieldAddrB <;> rfl));(case hq=>kernel_rfl))
                  all_goals (apply dtk 23;(case hi=>rfl);(case hop=>(apply prd;apply p_fieldAddrB <;> rfl));(case hq=>kernel_rfl))
                  all_goals (apply d_store 24;(case hi=>rfl);(case hr=>kernel_rfl);(case hL=>infer_instance);(case hp=>rfl);(case hx=>rfl);(case hc=>rfl);(case hsz=>rfl);(case h1=>rfl);(case hb=>(repeat (first|exact mhd _|apply mtl)));(case hfit=>exact nle rfl);(case hov=>((repeat (first|with_reducible exact ov_nil|apply ov_cons));done));(case hu=>repeat (first|exact Upd.here _ _|apply Upd.there));(case hν'=>intro e he;(simp at he;simp [he];done)))
                  all_goals (apply dtk 25;(case hi=>rfl);(case hop=>(apply prd;apply p_nilCheck <;> rfl));(case hq=>kernel_rfl))
                  all_goals (apply dtk 26;(case hi=>rfl);(case hop=>(apply prd;apply p_fieldAddrB <;> rfl));(case hq=>kernel_rfl))
                  all_goals (apply dtk 27;(case hi=>rfl);(case hop=>(apply prd;apply p_fieldAddrB <;> rfl));(case hq=>kernel_rfl))
                  all_goals (apply d_store 28;(case hi=>rfl);(case hr=>kernel_rfl);(case hL=>infer_instance);(case hp=>rfl);(case hx=>rfl);(case hc=>rfl);(case hsz=>rfl);(case h1=>rfl);(case hb=>(repeat (first|exact mhd _|apply mtl)));(case hfit=>exact nle rfl);(case hov=>((repeat (first|with_reducible exact ov_nil|apply ov_cons));done));(case hu=>repeat (first|exact Upd.here _ _|apply Upd.there));(case hν'=>intro e he;(simp at he;simp [he];done)))
                  all_goals (apply d_done;(case hr=>kernel_rfl))
                rotate_right
                focus
                  (apply x_call 7 (hs:=qo) (μ1:=[]);(case hi=>rfl);  (case ha=>rfl);(case hp=>exact List.Perm.refl _);(case hd=>rfl);(case hν'=>intro e he;simp at he;simp [he]);rintro _ G4 _ hle4 ⟨rfl,L,rfl,iv,av,cv,rfl,hi,hac,hch⟩;obtain ⟨B0,d0,rfl,-⟩:=id hi.openInt;obtain ⟨B1,d1,rfl,-⟩:=id hac.open;obtain ⟨B2,d2,rfl,-⟩:=id hch.open)
                  all_goals (apply d_keep 11 (hop:=ReadOp.move ?hop);(case hi=>rfl);(case hr=>kernel_rfl);(case hop=>(apply r_load1;rfl;(apply Cell.own;(case h=>repeat (first|exact mhd _|apply mtl));rfl)));(case hd=>rfl))
                  all_goals (apply dtk 12;(case hi=>rfl);(case hop=>(apply prd;apply p_lenSlice <;> rfl));(case hq=>kernel_rfl))
                  all_goals (apply dtk 17;(case hi=>rfl);(case hop=>(apply prd;apply p_nilCheck <;> rfl));(case hq=>kernel_rfl))
                  all_goals (apply dtk 18;(case hi=>rfl);(case hop=>(apply prd;apply p_fieldAddrB <;> rfl));(case hq=>kernel_rfl))
                  all_goals (apply dtk 19;(case hi=>rfl);(case hop=>(apply prd;apply p_fieldAddrB <;> rfl));(case hq=>kernel_rfl))
                  all_goals (apply d_store 20;(case hi=>rfl);(case hr=>kernel_rfl);(case hL=>infer_instance);(case hp=>rfl);(case hx=>rfl);(case hc=>rfl);(case hsz=>rfl);(case h1=>rfl);(case hb=>(repeat (first|exact mhd _|apply mtl)));(case hfit=>exact nle rfl);(case hov=>((repeat (first|with_reducible exact ov_nil|apply ov_cons));done));(case hu=>repeat (first|exact Upd.here _ _|apply Upd.there));(case hν'=>intro e he;(simp at he;simp [he];done)))
                  all_goals (apply dtk 21;(case hi=>rfl);(case hop=>(apply prd;apply p_nilCheck <;> rfl));(case hq=>kernel_rfl))
                  all_goals (apply dtk 22;(case hi=>rfl);(case hop=>(apply prd;apply p_fieldAddrB <;> rfl));(case hq=>kernel_rfl))
                  all_goals (apply dtk 23;(case hi=>rfl);(case hop=>(apply prd;apply p_fieldAddrB <;> rfl));(case hq=>kernel_rfl))
                  all_goals (apply d_store 24;(case hi=>rfl);(case hr=>kernel_rfl);(case hL=>infer_instance);(case hp=>rfl);(case hx=>rfl);(case hc=>rfl);(case hsz=>rfl);(case h1=>rfl);(case hb=>(repeat (first|exact mhd _|apply mtl)));(case hfit=>exact nle rfl);(case hov=>((repeat (first|with_reducible exact ov_nil|apply ov_cons));done));(case hu=>repeat (first|exact Upd.here _ _|apply Upd.there));(case hν'=>intro e he;(simp at he;simp [he];done)))
                  all_goals (apply dtk 25;(case hi=>rfl);(case hop=>(apply prd;apply p_nilCheck <;> rfl));(case hq=>kernel_rfl))
                  all_goals (apply dtk 26;(case hi=>rfl);(case hop=>(apply prd;apply p_fieldAddrB <;> rfl));(case hq=>kernel_rfl))
                  all_goals (apply dtk 27;(case hi=>rfl);(case hop=>(apply prd;apply p_fieldAddrB <;> rfl));(case hq=>kernel_rfl))
                  all_goals (apply d_store 28;(case hi=>rfl);(case hr=>kernel_rfl);(case hL=>infer_instance);(case hp=>rfl);(case hx=>rfl);(case hc=>rfl);(case hsz=>rfl);(case h1=>rfl);(case hb=>(repeat (first|exact mhd _|apply mtl)));(case hfit=>exact nle rfl);(case hov=>((repeat (first|with_reducible exact ov_nil|apply ov_cons));done));(case hu=>repeat (first|exact Upd.here _ _|apply Upd.there));(case hν'=>intro e he;(simp at he;simp [he];done)))
                  all_goals (apply d_done;(case hr=>kernel_rfl))
        rotate_right
        focus
          (apply x_exec 11;(case hi=>rfl);  (case hop=>exact ReadOp.move (r_load1 rfl (Cell.own (by repeat (first|exact mhd _|apply mtl)) rfl)));(case hd=>rfl);rintro _ G0 _ ⟨rfl,hG0,rfl⟩;subst G0;refine ⟨(by intro e he;simp at he;simp [he]),?_⟩)
          all_goals (apply dtk 12;(case hi=>rfl);(case hop=>(apply prd;apply p_lenSlice <;> rfl));(case hq=>kernel_rfl))
          focus
            refine d_fork 6 16 (by kernel_rfl) ?_ ?_
            rotate_right
            focus
              (apply x_exec 16;(case hi=>rfl);  (case hop=>exact ReadOp.move (r_load1 rfl (Cell.own (by repeat (first|exact mhd _|apply mtl)) rfl)));(case hd=>rfl);rintro _ G0 _ ⟨rfl,hG0,rfl⟩;subst G0;refine ⟨(by intro e he;simp at he;simp [he]),?_⟩)
              all_goals (apply d_keep 6 (hop:=ReadOp.move ?hop);(case hi=>rfl);(case hr=>kernel_rfl);(case hop=>(apply r_load1;rfl;(apply Cell.own;(case h=>repeat (first|exact mhd _|apply mtl));rfl)));(case hd=>rfl))
              all_goals ((apply d_call 7 (hs:=qo) (μ1:=[]);(case hi=>rfl);(case hr=>kernel_rfl);  (case ha=>rfl);(case hp=>exact List.Perm.refl _);(case hd=>rfl);(case hν'=>intro e he;simp at he;simp [he]);rintro _ G4 _ hle4 ⟨rfl,L,rfl,iv,av,cv,rfl,hi,hac,hch⟩;obtain ⟨B0,d0,rfl,-⟩:=id hi.openInt;obtain ⟨B1,d1,rfl,-⟩:=id hac.open;obtain ⟨B2,d2,rfl,-⟩:=id hch.open))
              all_goals (apply dtk 17;(case hi=>rfl);(case hop=>(apply prd;apply p_nilCheck <;> rfl));(case hq=>kernel_rfl))
              all_goals (apply dtk 18;(case hi=>rfl);(case hop=>(apply prd;apply p_fieldAddrB <;> rfl));(case hq=>kernel_rfl))
              all_goals (apply dtk 19;(case hi=>rfl);(case hop=>(apply prd;apply p_fieldAddrB <;> rfl));(case hq=>kernel_rfl))
              all_goals (apply d_store 20;(case hi=>rfl);(case hr=>kernel_rfl);(case hL=>infer_instance);(case hp=>rfl);(case hx=>rfl);(case hc=>rfl);(case hsz=>rfl);(case h1=>rfl);(case hb=>(repeat (first|exact mhd _|apply mtl)));(case hfit=>exact nle rfl);(case hov=>((repeat (first|with_reducible exact ov_nil|apply ov_cons));done));(case hu=>repeat (first|exact Upd.here _ _|apply Upd.there));(case hν'=>intro e he;(simp at he;simp [he];done)))
              all_goals (apply dtk 21;(case hi=>rfl);(case hop=>(apply prd;apply p_nilCheck <;> rfl));(case hq=>kernel_rfl))
              all_goals (apply dtk 22;(case hi=>rfl);(case hop=>(apply prd;apply p_fieldAddrB <;> rfl));(case hq=>kernel_rfl))
              all_goals (apply dtk 23;(case hi=>rfl);(case hop=>(apply prd;apply p_fieldAddrB <;> rfl));(case hq=>kernel_rfl))
              all_goals (apply d_store 24;(case hi=>rfl);(case hr=>kernel_rfl);(case hL=>infer_instance);(case hp=>rfl);(case hx=>rfl);(case hc=>rfl);(case hsz=>rfl);(case h1=>rfl);(case hb=>(repeat (first|exact mhd _|apply mtl)));(case hfit=>exact nle rfl);(case hov=>((repeat (first|with_reducible exact ov_nil|apply ov_cons));done));(case hu=>repeat (first|exact Upd.here _ _|apply Upd.there));(case hν'=>intro e he;(simp at he;simp [he];done)))
              all_goals (apply dtk 25;(case hi=>rfl);(case hop=>(apply prd;apply p_nilCheck <;> rfl));(case hq=>kernel_rfl))
              all_goals (apply dtk 26;(case hi=>rfl);(case hop=>(apply prd;apply p_fieldAddrB <;> rfl));(case hq=>kernel_rfl))
              all_goals (apply dtk 27;(case hi=>rfl);(case hop=>(apply prd;apply p_fieldAddrB <;> rfl));(case hq=>kernel_rfl))
              all_goals (apply d_store 28;(case hi=>rfl);(case hr=>kernel_rfl);(case hL=>infer_instance);(case hp=>rfl);(case hx=>rfl);(case hc=>rfl);(case hsz=>rfl);(case h1=>rfl);(case hb=>(repeat (first|exact mhd _|apply mtl)));(case hfit=>exact nle rfl);(case hov=>((repeat (first|with_reducible exact ov_nil|apply ov_cons));done));(case hu=>repeat (first|exact Upd.here _ _|apply Upd.there));(case hν'=>intro e he;(simp at he;simp [he];done)))
              all_goals (apply d_done;(case hr=>kernel_rfl))
            rotate_right
            focus
              (apply x_exec 6;(case hi=>rfl);  (case hop=>exact ReadOp.move (r_load1 rfl (Cell.own (by repeat (first|exact mhd _|apply mtl)) rfl)));(case hd=>rfl);rintro _ G0 _ ⟨rfl,hG0,rfl⟩;subst G0;refine ⟨(by intro e he;simp at he;simp [he]),?_⟩)
              focus
                refine d_fork 7 16 (by kernel_rfl) ?_ ?_
                rotate_right
                focus
                  (apply x_exec 16;(case hi=>rfl);  (case hop=>exact ReadOp.move (r_load1 rfl (Cell.own (by repeat (first|exact mhd _|apply mtl)) rfl)));(case hd=>rfl);rintro _ G0 _ ⟨rfl,hG0,rfl⟩;subst G0;refine ⟨(by intro e he;simp at he;simp [he]),?_⟩)
                  all_goals ((apply d_call 7 (hs:=qo) (μ1:=[]);(case hi=>rfl);(case hr=>kernel_rfl);  (case ha=>rfl);(case hp=>exact List.Perm.refl _);(case hd=>rfl);(case hν'=>intro e he;simp at he;simp [he]);rintro _ G4 _ hle4 ⟨rfl,L,rfl,iv,av,cv,rfl,hi,hac,hch⟩;obtain ⟨B0,d0,rfl,-⟩:=id hi.openInt;obtain ⟨B1,d1,rfl,-⟩:=id hac.open;obtain ⟨B2,d2,rfl,-⟩:=id hch.open))
                  all_goals (apply dtk 17;(case hi=>rfl);(case hop=>(apply prd;apply p_nilCheck <;> rfl));(case hq=>kernel_rfl))
                  all_goals (apply dtk 18;(case hi=>rfl);(case hop=>(apply prd;apply p_fieldAddrB <;> rfl));(case hq=>kernel_rfl))
                  all_goals (apply dtk 19;(case hi=>rfl);(case hop=>(apply prd;apply p_fieldAddrB <;> rfl));(case hq=>kernel_rfl))
                  all_goals (apply d_store 20;(case hi=>rfl);(case hr=>kernel_rfl);(case hL=>infer_instance);(case hp=>rfl);(case hx=>rfl);(case hc=>rfl);(case hsz=>rfl);(case h1=>rfl);(case hb=>(repeat (first|exact mhd _|apply mtl)));(case hfit=>exact nle rfl);(case hov=>((repeat (first|with_reducible exact ov_nil|apply ov_cons));done));(case hu=>repeat (first|exact Upd.here _ _|apply Upd.there));(case hν'=>intro e he;(simp at he;simp [he];done)))
                  all_goals (apply dtk 21;(case hi=>rfl);(case hop=>(apply prd;apply p_nilCheck <;> rfl));(case hq=>kernel_rfl))
                  all_goals (apply dtk 22;(case hi=>rfl);(case hop=>(apply prd;apply p_fieldAddrB <;> rfl));(case hq=>kernel_rfl))
                  all_goals (apply dtk 23;(case hi=>rfl);(case hop=>(apply prd;apply p_fieldAddrB <;> rfl));(case hq=>kernel_rfl))
                  all_goals (apply d_store 24;(case hi=>rfl);(case hr=>kernel_rfl);(case hL=>infer_instance);(case hp=>rfl);(case hx=>rfl);(case hc=>rfl);(case hsz=>rfl);(case h1=>rfl);(case hb=>(repeat (first|exact mhd _|apply mtl)));(case hfit=>exact nle rfl);(case hov=>((repeat (first|with_reducible exact ov_nil|apply ov_cons));done));(case hu=>repeat (first|exact Upd.here _ _|apply Upd.there));(case hν'=>intro e he;(simp at he;simp [he];done)))
                  all_goals (apply dtk 25;(case hi=>rfl);(case hop=>(apply prd;apply p_nilCheck <;> rfl));(case hq=>kernel_rfl))
                  all_goals (apply dtk 26;(case hi=>rfl);(case hop=>(apply prd;apply p_fieldAddrB <;> rfl));(case hq=>kernel_rfl))
                  all_goals (apply dtk 27;(case hi=>rfl);(case hop=>(apply prd;apply p_fieldAddrB <;> rfl));(case hq=>kernel_rfl))
                  all_goals (apply d_store 28;(case hi=>rfl);(case hr=>kernel_rfl);(case hL=>infer_instance);(case hp=>rfl);(case hx=>rfl);(case hc=>rfl);(case hsz=>rfl);(case h1=>rfl);(case hb=>(repeat (first|exact mhd _|apply mtl)));(case hfit=>exact nle rfl);(case hov=>((repeat (first|with_reducible exact ov_nil|apply ov_cons));done));(case hu=>repeat (first|exact Upd.here _ _|apply Upd.there));(case hν'=>intro e he;(simp at he;simp [he];done)))
                  all_goals (apply d_done;(case hr=>kernel_rfl))
                rotate_right
                focus
                  (apply x_call 7 (hs:=qo) (μ1:=[]);(case hi=>rfl);  (case ha=>rfl);(case hp=>exact List.Perm.refl _);(case hd=>rfl);(case hν'=>intro e he;simp at he;simp [he]);rintro _ G4 _ hle4 ⟨rfl,L,rfl,iv,av,cv,rfl,hi,hac,hch⟩;obtain ⟨B0,d0,rfl,-⟩:=id hi.openInt;obtain ⟨B1,d1,rfl,-⟩:=id hac.open;obtain ⟨B2,d2,rfl,-⟩:=id hch.open)
                  all_goals (apply d_keep 16 (hop:=ReadOp.move ?hop);(case hi=>rfl);(case hr=>kernel_rfl);(case hop=>(apply r_load1;rfl;(apply Cell.own;(case h=>repeat (first|exact mhd _|apply mtl));rfl)));(case hd=>rfl))
                  all_goals (apply dtk 17;(case hi=>rfl);(case hop=>(apply prd;apply p_nilCheck <;> rfl));(case hq=>kernel_rfl))
                  all_goals (apply dtk 18;(case hi=>rfl);(case hop=>(apply prd;apply p_fieldAddrB <;> rfl));(case hq=>kernel_rfl))
                  all_goals (apply dtk 19;(case hi=>rfl);(case hop=>(apply prd;apply p_fieldAddrB <;> rfl));(case hq=>kernel_rfl))
                  all_goals (apply d_store 20;(case hi=>rfl);(case hr=>kernel_rfl);(case hL=>infer_instance);(case hp=>rfl);(case hx=>rfl);(case hc=>rfl);(case hsz=>rfl);(case h1=>rfl);(case hb=>(repeat (first|exact mhd _|apply mtl)));(case hfit=>exact nle rfl);(case hov=>((repeat (first|with_reducible exact ov_nil|apply ov_cons));done));(case hu=>repeat (first|exact Upd.here _ _|apply Upd.there));(case hν'=>intro e he;(simp at he;simp [he];done)))
                  all_goals (apply dtk 21;(case hi=>rfl);(case hop=>(apply prd;apply p_nilCheck <;> rfl));(case hq=>kernel_rfl))
                  all_goals (apply dtk 22;(case hi=>rfl);(case hop=>(apply prd;apply p_fieldAddrB <;> rfl));(case hq=>kernel_rfl))
                  all_goals (apply dtk 23;(case hi=>rfl);(case hop=>(apply prd;apply p_fieldAddrB <;> rfl));(case hq=>kernel_rfl))
                  all_goals (apply d_store 24;(case hi=>rfl);(case hr=>kernel_rfl);(case hL=>infer_instance);(case hp=>rfl);(case hx=>rfl);(case hc=>rfl);(case hsz=>rfl);(case h1=>rfl);(case hb=>(repeat (first|exact mhd _|apply mtl)));(case hfit=>exact nle rfl);(case hov=>((repeat (first|with_reducible exact ov_nil|apply ov_cons));done));(case hu=>repeat (first|exact Upd.here _ _|apply Upd.there));(case hν'=>intro e he;(simp at he;simp [he];done)))
                  all_goals (apply dtk 25;(case hi=>rfl);(case hop=>(apply prd;apply p_nilCheck <;> rfl));(case hq=>kernel_rfl))
                  all_goals (apply dtk 26;(case hi=>rfl);(case hop=>(apply prd;apply p_fieldAddrB <;> rfl));(case hq=>kernel_rfl))
                  all_goals (apply dtk 27;(case hi=>rfl);(case hop=>(apply prd;apply p_fieldAddrB <;> rfl));(case hq=>kernel_rfl))
                  all_goals (apply d_store 28;(case hi=>rfl);(case hr=>kernel_rfl);(case hL=>infer_instance);(case hp=>rfl);(case hx=>rfl);(case hc=>rfl);(case hsz=>rfl);(case h1=>rfl);(case hb=>(repeat (first|exact mhd _|apply mtl)));(case hfit=>exact nle rfl);(case hov=>((repeat (first|with_reducible exact ov_nil|apply ov_cons));done));(case hu=>repeat (first|exact Upd.here _ _|apply Upd.there));(case hν'=>intro e he;(simp at he;simp [he];done)))
                  all_goals (apply d_done;(case hr=>kernel_rfl))
        rotate_right
        focus
          (apply x_exec 6;(case hi=>rfl);  (case hop=>exact ReadOp.move (r_load1 rfl (Cell.own (by repeat (first|exact mhd _|apply mtl)) rfl)));(case hd=>rfl);rintro _ G0 _ ⟨rfl,hG0,rfl⟩;subst G0;refine ⟨(by intro e he;simp at he;simp [he]),?_⟩)
          focus
            refine d_fork3 7 11 16 (by kernel_rfl) ?_ ?_ ?_
            rotate_right
            focus
              (apply x_exec 16;(case hi=>rfl);  (case hop=>exact ReadOp.move (r_load1 rfl (Cell.own (by repeat (first|exact mhd _|apply mtl)) rfl)));(case hd=>rfl);rintro _ G0 _ ⟨rfl,hG0,rfl⟩;subst G0;refine ⟨(by intro e he;simp at he;simp [he]),?_⟩)
              focus
                refine d_fork 7 11 (by kernel_rfl) ?_ ?_
                rotate_right
                focus
                  (apply x_exec 11;(case hi=>rfl);  (case hop=>exact ReadOp.move (r_load1 rfl (Cell.own (by repeat (first|exact mhd _|apply mtl)) rfl)));(case hd=>rfl);rintro _ G0 _ ⟨rfl,hG0,rfl⟩;subst G0;refine ⟨(by intro e he;simp at he;simp [he]),?_⟩)
                  all_goals (apply dtk 12;(case hi=>rfl);(case hop=>(apply prd;apply p_lenSlice <;> rfl));(case hq=>kernel_rfl))
                  all_goals ((apply d_call 7 (hs:=qo) (μ1:=[]);(case hi=>rfl);(case hr=>kernel_rfl);  (case ha=>rfl);(case hp=>exact List.Perm.refl _);(case hd=>rfl);(case hν'=>intro e he;simp at he;simp [he]);rintro _ G4 _ hle4 ⟨rfl,L,rfl,iv,av,cv,rfl,hi,hac,hch⟩;obtain ⟨B0,d0,rfl,-⟩:=id hi.openInt;obtain ⟨B1,d1,rfl,-⟩:=id hac.open;obtain ⟨B2,d2,rfl,-⟩:=id hch.open))
                  all_goals (apply dtk 17;(case hi=>rfl);(case hop=>(apply prd;apply p_nilCheck <;> rfl));(case hq=>kernel_rfl))
                  all_goals (apply dtk 18;(case hi=>rfl);(case hop=>(apply prd;apply p_fieldAddrB <;> rfl));(case hq=>kernel_rfl))
                  all_goals (apply dtk 19;(case hi=>rfl);(case hop=>(apply prd;apply p_fieldAddrB <;> rfl));(case hq=>kernel_rfl))
                  all_goals (apply d_store 20;(case hi=>rfl);(case hr=>kernel_rfl);(case hL=>infer_instance);(case hp=>rfl);(case hx=>rfl);(case hc=>rfl);(case hsz=>rfl);(case h1=>rfl);(case hb=>(repeat (first|exact mhd _|apply mtl)));(case hfit=>exact nle rfl);(case hov=>((repeat (first|with_reducible exact ov_nil|apply ov_cons));done));(case hu=>repeat (first|exact Upd.here _ _|apply Upd.there));(case hν'=>intro e he;(simp at he;simp [he];done)))
                  all_goals (apply dtk 21;(case hi=>rfl);(case hop=>(apply prd;apply p_nilCheck <;> rfl));(case hq=>kernel_rfl))
                  all_goals (apply dtk 22;(case hi=>rfl);(case hop=>(apply prd;apply p_fieldAddrB <;> rfl));(case hq=>kernel_rfl))
                  all_goals (apply dtk 23;(case hi=>rfl);(case hop=>(apply prd;apply p_fieldAddrB <;> rfl));(case hq=>kernel_rfl))
                  all_goals (apply d_store 24;(case hi=>rfl);(case hr=>kernel_rfl);(case hL=>infer_instance);(case hp=>rfl);(case hx=>rfl);(case hc=>rfl);(case hsz=>rfl);(case h1=>rfl);(case hb=>(repeat (first|exact mhd _|apply mtl)));(case hfit=>exact nle rfl);(case hov=>((repeat (first|with_reducible exact ov_nil|apply ov_cons));done));(case hu=>repeat (first|exact Upd.here _ _|apply Upd.there));(case hν'=>intro e he;(simp at he;simp [he];done)))
                  all_goals (apply dtk 25;(case hi=>rfl);(case hop=>(apply prd;apply p_nilCheck <;> rfl));(case hq=>kernel_rfl))
                  all_goals (apply dtk 26;(case hi=>rfl);(case hop=>(apply prd;apply p_fieldAddrB <;> rfl));(case hq=>kernel_rfl))
                  all_goals (apply dtk 27;(case hi=>rfl);(case hop=>(apply prd;apply p_fieldAddrB <;> rfl));(case hq=>kernel_rfl))
                  all_goals (apply d_store 28;(case hi=>rfl);(case hr=>kernel_rfl);(case hL=>infer_instance);(case hp=>rfl);(case hx=>rfl);(case hc=>rfl);(case hsz=>rfl);(case h1=>rfl);(case hb=>(repeat (first|exact mhd _|apply mtl)));(case hfit=>exact nle rfl);(case hov=>((repeat (first|with_reducible exact ov_nil|apply ov_cons));done));(case hu=>repeat (first|exact Upd.here _ _|apply Upd.there));(case hν'=>intro e he;(simp at he;simp [he];done)))
                  all_goals (apply d_done;(case hr=>kernel_rfl))
                rotate_right
                focus
                  (apply x_call 7 (hs:=qo) (μ1:=[]);(case hi=>rfl);  (case ha=>rfl);(case hp=>exact List.Perm.refl _);(case hd=>rfl);(case hν'=>intro e he;simp at he;simp [he]);rintro _ G4 _ hle4 ⟨rfl,L,rfl,iv,av,cv,rfl,hi,hac,hch⟩;obtain ⟨B0,d0,rfl,-⟩:=id hi.openInt;obtain ⟨B1,d1,rfl,-⟩:=id hac.open;obtain ⟨B2,d2,rfl,-⟩:=id hch.open)
                  all_goals (apply d_keep 11 (hop:=ReadOp.move ?hop);(case hi=>rfl);(case hr=>kernel_rfl);(case hop=>(apply r_load1;rfl;(apply Cell.own;(case h=>repeat (first|exact mhd _|apply mtl));rfl)));(case hd=>rfl))
                  all_goals (apply dtk 12;(case hi=>rfl);(case hop=>(apply prd;apply p_lenSlice <;> rfl));(case hq=>kernel_rfl))
                  all_goals (apply dtk 17;(case hi=>rfl);(case hop=>(apply prd;apply p_nilCheck <;> rfl));(case hq=>kernel_rfl))
                  all_goals (apply dtk 18;(case hi=>rfl);(case hop=>(apply prd;apply p_fieldAddrB <;> rfl));(case hq=>kernel_rfl))
                  all_goals (apply dtk 19;(case hi=>rfl);(case hop=>(apply prd;apply p_fieldAddrB <;> rfl));(case hq=>kernel_rfl))
                  all_goals (apply d_store 20;(case hi=>rfl);(case hr=>kernel_rfl);(case hL=>infer_instance);(case hp=>rfl);(case hx=>rfl);(case hc=>rfl);(case hsz=>rfl);(case h1=>rfl);(case hb=>(repeat (first|exact mhd _|apply mtl)));(case hfit=>exact nle rfl);(case hov=>((repeat (first|with_reducible exact ov_nil|apply ov_cons));done));(case hu=>repeat (first|exact Upd.here _ _|apply Upd.there));(case hν'=>intro e he;(simp at he;simp [he];done)))
                  all_goals (apply dtk 21;(case hi=>rfl);(case hop=>(apply prd;apply p_nilCheck <;> rfl));(case hq=>kernel_rfl))
                  all_goals (apply dtk 22;(case hi=>rfl);(case hop=>(apply prd;apply p_fieldAddrB <;> rfl));(case hq=>kernel_rfl))
                  all_goals (apply dtk 23;(case hi=>rfl);(case hop=>(apply prd;apply p_fieldAddrB <;> rfl));(case hq=>kernel_rfl))
                  all_goals (apply d_store 24;(case hi=>rfl);(case hr=>kernel_rfl);(case hL=>infer_instance);(case hp=>rfl);(case hx=>rfl);(case hc=>rfl);(case hsz=>rfl);(case h1=>rfl);(case hb=>(repeat (first|exact mhd _|apply mtl)));(case hfit=>exact nle rfl);(case hov=>((repeat (first|with_reducible exact ov_nil|apply ov_cons));done));(case hu=>repeat (first|exact Upd.here _ _|apply Upd.there));(case hν'=>intro e he;(simp at he;simp [he];done)))
                  all_goals (apply dtk 25;(case hi=>rfl);(case hop=>(apply prd;apply p_nilCheck <;> rfl));(case hq=>kernel_rfl))
                  all_goals (apply dtk 26;(case hi=>rfl);(case hop=>(apply prd;apply p_fieldAddrB <;> rfl));(case hq=>kernel_rfl))
                  all_goals (apply dtk 27;(case hi=>rfl);(case hop=>(apply prd;apply p_fieldAddrB <;> rfl));(case hq=>kernel_rfl))
                  all_goals (apply d_store 28;(case hi=>rfl);(case hr=>kernel_rfl);(case hL=>infer_instance);(case hp=>rfl);(case hx=>rfl);(case hc=>rfl);(case hsz=>rfl);(case h1=>rfl);(case hb=>(repeat (first|exact mhd _|apply mtl)));(case hfit=>exact nle rfl);(case hov=>((repeat (first|with_reducible exact ov_nil|apply ov_cons));done));(case hu=>repeat (first|exact Upd.here _ _|apply Upd.there));(case hν'=>intro e he;(simp at he;simp [he];done)))
                  all_goals (apply d_done;(case hr=>kernel_rfl))
            rotate_right
            focus
              (apply x_exec 11;(case hi=>rfl);  (case hop=>exact ReadOp.move (r_load1 rfl (Cell.own (by repeat (first|exact mhd _|apply mtl)) rfl)));(case hd=>rfl);rintro _ G0 _ ⟨rfl,hG0,rfl⟩;subst G0;refine ⟨(by intro e he;simp at he;simp [he]),?_⟩)
              all_goals (apply dtk 12;(case hi=>rfl);(case hop=>(apply prd;apply p_lenSlice <;> rfl));(case hq=>kernel_rfl))
              focus
                refine d_fork 7 16 (by kernel_rfl) ?_ ?_
                rotate_right
                focus
                  (apply x_exec 16;(case hi=>rfl);  (case hop=>exact ReadOp.move (r_load1 rfl (Cell.own (by repeat (first|exact mhd _|apply mtl)) rfl)));(case hd=>rfl);rintro _ G0 _ ⟨rfl,hG0,rfl⟩;subst G0;refine ⟨(by intro e he;simp at he;simp [he]),?_⟩)
                  all_goals ((apply d_call 7 (hs:=qo) (μ1:=[]);(case hi=>rfl);(case hr=>kernel_rfl);  (case ha=>rfl);(case hp=>exact List.Perm.refl _);(case hd=>rfl);(case hν'=>intro e he;simp at he;simp [he]);rintro _ G4 _ hle4 ⟨rfl,L,rfl,iv,av,cv,rfl,hi,hac,hch⟩;obtain ⟨B0,d0,rfl,-⟩:=id hi.openInt;obtain ⟨B1,d1,rfl,-⟩:=id hac.open;obtain ⟨B2,d2,rfl,-⟩:=id hch.open))
                  all_goals (apply dtk 17;(case hi=>rfl);(case hop=>(apply prd;apply p_nilCheck <;> rfl));(case hq=>kernel_rfl))
                  all_goals (apply dtk 18;(case hi=>rfl);(case hop=>(apply prd;apply p_fieldAddrB <;> rfl));(case hq=>kernel_rfl))
                  all_goals (apply dtk 19;(case hi=>rfl);(case hop=>(apply prd;apply p_fieldAddrB <;> rfl));(case hq=>kernel_rfl))
                  all_goals (apply d_store 20;(case hi=>rfl);(case hr=>kernel_rfl);(case hL=>infer_instance);(case hp=>rfl);(case hx=>rfl);(case hc=>rfl);(case hsz=>rfl);(case h1=>rfl);(case hb=>(repeat (first|exact mhd _|apply mtl)));(case hfit=>exact nle rfl);(case hov=>((repeat (first|with_reducible exact ov_nil|apply ov_cons));done));(case hu=>repeat (first|exact Upd.here _ _|apply Upd.there));(case hν'=>intro e he;(simp at he;simp [he];done)))
                  all_goals (apply dtk 21;(case hi=>rfl);(case hop=>(apply prd;apply p_nilCheck <;> rfl));(case hq=>kernel_rfl))
                  all_goals (apply dtk 22;(case hi=>rfl);(case hop=>(apply prd;apply p_fieldAddrB <;> rfl));(case hq=>kernel_rfl))
                  all_goals (apply dtk 23;(case hi=>rfl);(case hop=>(apply prd;apply p_fieldAddrB <;> rfl));(case hq=>kernel_rfl))
                  all_goals (apply d_store 24;(case hi=>rfl);(case hr=>kernel_rfl);(case hL=>infer_instance);(case hp=>rfl);(case hx=>rfl);(case hc=>rfl);(case hsz=>rfl);(case h1=>rfl);(case hb=>(repeat (first|exact mhd _|apply mtl)));(case hfit=>exact nle rfl);(case hov=>((repeat (first|with_reducible exact ov_nil|apply ov_cons));done));(case hu=>repeat (first|exact Upd.here _ _|apply Upd.there));(case hν'=>intro e he;(simp at he;simp [he];done)))
                  all_goals (apply dtk 25;(case hi=>rfl);(case hop=>(apply prd;apply p_nilCheck <;> rfl));(case hq=>kernel_rfl))
                  all_goals (apply dtk 26;(case hi=>rfl);(case hop=>(apply prd;apply p_fieldAddrB <;> rfl));(case hq=>kernel_rfl))
                  all_goals (apply dtk 27;(case hi=>rfl);(case hop=>(apply prd;apply p_fieldAddrB <;> rfl));(case hq=>kernel_rfl))
                  all_goals (apply d_store 28;(case hi=>rfl);(case hr=>kernel_rfl);(case hL=>infer_instance);(case hp=>rfl);(case hx=>rfl);(case hc=>rfl);(case hsz=>rfl);(case h1=>rfl);(case hb=>(repeat (first|exact mhd _|apply mtl)));(case hfit=>exact nle rfl);(case hov=>((repeat (first|with_reducible exact ov_nil|apply ov_cons));done));(case hu=>repeat (first|exact Upd.here _ _|apply Upd.there));(case hν'=>intro e he;(simp at he;simp [he];done)))
                  all_goals (apply d_done;(case hr=>kernel_rfl))
                rotate_right
                focus
                  (apply x_call 7 (hs:=qo) (μ1:=[]);(case hi=>rfl);  (case ha=>rfl);(case hp=>exact List.Perm.refl _);(case hd=>rfl);(case hν'=>intro e he;simp at he;simp [he]);rintro _ G4 _ hle4 ⟨rfl,L,rfl,iv,av,cv,rfl,hi,hac,hch⟩;obtain ⟨B0,d0,rfl,-⟩:=id hi.openInt;obtain ⟨B1,d1,rfl,-⟩:=id hac.open;obtain ⟨B2,d2,rfl,-⟩:=id hch.open)
                  all_goals (apply d_keep 16 (hop:=ReadOp.move ?hop);(case hi=>rfl);(case hr=>kernel_rfl);(case hop=>(apply r_load1;rfl;(apply Cell.own;(case h=>repeat (first|exact mhd _|apply mtl));rfl)));(case hd=>rfl))
                  all_goals (apply dtk 17;(case hi=>rfl);(case hop=>(apply prd;apply p_nilCheck <;> rfl));(case hq=>kernel_rfl))
                  all_goals (apply dtk 18;(case hi=>rfl);(case hop=>(apply prd;apply p_fieldAddrB <;> rfl));(case hq=>kernel_rfl))
                  all_goals (apply dtk 19;(case hi=>rfl);(case hop=>(apply prd;apply p_fieldAddrB <;> rfl));(case hq=>kernel_rfl))
                  all_goals (apply d_store 20;(case hi=>rfl);(case hr=>kernel_rfl);(case hL=>infer_instance);(case hp=>rfl);(case hx=>rfl);(case hc=>rfl);(case hsz=>rfl);(case h1=>rfl);(case hb=>(repeat (first|exact mhd _|apply mtl)));(case hfit=>exact nle rfl);(case hov=>((repeat (first|with_reducible exact ov_nil|apply ov_cons));done));(case hu=>repeat (first|exact Upd.here _ _|apply Upd.there));(case hν'=>intro e he;(simp at he;simp [he];done)))
                  all_goals (apply dtk 21;(case hi=>rfl);(case hop=>(apply prd;apply p_nilCheck <;> rfl));(case hq=>kernel_rfl))
                  all_goals (apply dtk 22;(case hi=>rfl);(case hop=>(apply prd;apply p_fieldAddrB <;> rfl));(case hq=>kernel_rfl))
                  all_goals (apply dtk 23;(case hi=>rfl);(case hop=>(apply prd;apply p_fieldAddrB <;> rfl));(case hq=>kernel_rfl))
                  all_goals (apply d_store 24;(case hi=>rfl);(case hr=>kernel_rfl);(case hL=>infer_instance);(case hp=>rfl);(case hx=>rfl);(case hc=>rfl);(case hsz=>rfl);(case h1=>rfl);(case hb=>(repeat (first|exact mhd _|apply mtl)));(case hfit=>exact nle rfl);(case hov=>((repeat (first|with_reducible exact ov_nil|apply ov_cons));done));(case hu=>repeat (first|exact Upd.here _ _|apply Upd.there));(case hν'=>intro e he;(simp at he;simp [he];done)))
                  all_goals (apply dtk 25;(case hi=>rfl);(case hop=>(apply prd;apply p_nilCheck <;> rfl));(case hq=>kernel_rfl))
                  all_goals (apply dtk 26;(case hi=>rfl);(case hop=>(apply prd;apply p_fieldAddrB <;> rfl));(case hq=>kernel_rfl))
                  all_goals (apply dtk 27;(case hi=>rfl);(case hop=>(apply prd;apply p_fieldAddrB <;> rfl));(case hq=>kernel_rfl))
                  all_goals (apply d_store 28;(case hi=>rfl);(case hr=>kernel_rfl);(case hL=>infer_instance);(case hp=>rfl);(case hx=>rfl);(case hc=>rfl);(case hsz=>rfl);(case h1=>rfl);(case hb=>(repeat (first|exact mhd _|apply mtl)));(case hfit=>exact nle rfl);(case hov=>((repeat (first|with_reducible exact ov_nil|apply ov_cons));done));(case hu=>repeat (first|exact Upd.here _ _|apply Upd.there));(case hν'=>intro e he;(simp at he;simp [he];done)))
                  all_goals (apply d_done;(case hr=>kernel_rfl))
            rotate_right
            focus
              (apply x_call 7 (hs:=qo) (μ1:=[]);(case hi=>rfl);  (case ha=>rfl);(case hp=>exact List.Perm.refl _);(case hd=>rfl);(case hν'=>intro e he;simp at he;simp [he]);rintro _ G4 _ hle4 ⟨rfl,L,rfl,iv,av,cv,rfl,hi,hac,hch⟩;obtain ⟨B0,d0,rfl,-⟩:=id hi.openInt;obtain ⟨B1,d1,rfl,-⟩:=id hac.open;obtain ⟨B2,d2,rfl,-⟩:=id hch.open)
              focus
                refine d_fork 11 16 (by kernel_rfl) ?_ ?_
                rotate_right
                focus
                  (apply x_exec 16;(case hi=>rfl);  (case hop=>exact ReadOp.move (r_load1 rfl (Cell.own (by repeat (first|exact mhd _|apply mtl)) rfl)));(case hd=>rfl);rintro _ G0 _ ⟨rfl,hG0,rfl⟩;subst G0;refine ⟨(by intro e he;simp at he;simp [he]),?_⟩)
                  all_goals (apply d_keep 11 (hop:=ReadOp.move ?hop);(case hi=>rfl);(case hr=>kernel_rfl);(case hop=>(apply r_load1;rfl;(apply Cell.own;(case h=>repeat (first|exact mhd _|apply mtl));rfl)));(case hd=>rfl))
                  all_goals (apply dtk 12;(case hi=>rfl);(case hop=>(apply prd;apply p_lenSlice <;> rfl));(case hq=>kernel_rfl))
                  all_goals (apply dtk 17;(case hi=>rfl);(case hop=>(apply prd;apply p_nilCheck <;> rfl));(case hq=>kernel_rfl))
                  all_goals (apply dtk 18;(case hi=>rfl);(case hop=>(apply prd;apply p_fieldAddrB <;> rfl));(case hq=>kernel_rfl))
                  all_goals (apply dtk 19;(case hi=>rfl);(case hop=>(apply prd;apply p_fieldAddrB <;> rfl));(case hq=>kernel_rfl))
                  all_goals (apply d_store 20;(case hi=>rfl);(case hr=>kernel_rfl);(case hL=>infer_instance);(case hp=>rfl);(case hx=>rfl);(case hc=>rfl);(case hsz=>rfl);(case h1=>rfl);(case hb=>(repeat (first|exact mhd _|apply mtl)));(case hfit=>exact nle rfl);(case hov=>((repeat (first|with_reducible exact ov_nil|apply ov_cons));done));(case hu=>repeat (first|exact Upd.here _ _|apply Upd.there));(case hν'=>intro e he;(simp at he;simp [he];done)))
                  all_goals (apply dtk 21;(case hi=>rfl);(case hop=>(apply prd;apply p_nilCheck <;> rfl));(case hq=>kernel_rfl))
                  all_goals (apply dtk 22;(case hi=>rfl);(case hop=>(apply prd;apply p_fieldAddrB <;> rfl));(case hq=>kernel_rfl))
                  all_goals (apply dtk 23;(case hi=>rfl);(case hop=>(apply prd;apply p_fieldAddrB <;> rfl));(case hq=>kernel_rfl))
                  all_goals (apply d_store 24;(case hi=>rfl);(case hr=>kernel_rfl);(case hL=>infer_instance);(case hp=>rfl);(case hx=>rfl);(case hc=>rfl);(case hsz=>rfl);(case h1=>rfl);(case hb=>(repeat (first|exact mhd _|apply mtl)));(case hfit=>exact nle rfl);(case hov=>((repeat (first|with_reducible exact ov_nil|apply ov_cons));done));(case hu=>repeat (first|exact Upd.here _ _|apply Upd.there));(case hν'=>intro e he;(simp at he;simp [he];done)))
                  all_goals (apply dtk 25;(case hi=>rfl);(case hop=>(apply prd;apply p_nilCheck <;> rfl));(case hq=>kernel_rfl))
                  all_goals (apply dtk 26;(case hi=>rfl);(case hop=>(apply prd;apply p_fieldAddrB <;> rfl));(case hq=>kernel_rfl))
                  all_goals (apply dtk 27;(case hi=>rfl);(case hop=>(apply prd;apply p_fieldAddrB <;> rfl));(case hq=>kernel_rfl))
                  all_goals (apply d_store 28;(case hi=>rfl);(case hr=>kernel_rfl);(case hL=>infer_instance);(case hp=>rfl);(case hx=>rfl);(case hc=>rfl);(case hsz=>rfl);(case h1=>rfl);(case hb=>(repeat (first|exact mhd _|apply mtl)));(case hfit=>exact nle rfl);(case hov=>((repeat (first|with_reducible exact ov_nil|apply ov_cons));done));(case hu=>repeat (first|exact Upd.here _ _|apply Upd.there));(case hν'=>intro e he;(simp at he;simp [he];done)))
                  all_goals (apply d_done;(case hr=>kernel_rfl))
                rotate_right
                focus
                  (apply x_exec 11;(case hi=>rfl);  (case hop=>exact ReadOp.move (r_load1 rfl (Cell.own (by repeat (first|exact mhd _|apply mtl)) rfl)));(case hd=>rfl);rintro _ G0 _ ⟨rfl,hG0,rfl⟩;subst G0;refine ⟨(by intro e he;simp at he;simp [he]),?_⟩)
                  all_goals (apply dtk 12;(case hi=>rfl);(case hop=>(apply prd;apply p_lenSlice <;> rfl));(case hq=>kernel_rfl))
                  all_goals (apply d_keep 16 (hop:=ReadOp.move ?hop);(case hi=>rfl);(case hr=>kernel_rfl);(case hop=>(apply r_load1;rfl;(apply Cell.own;(case h=>repeat (first|exact mhd _|apply mtl));rfl)));(case hd=>rfl))
                  all_goals (apply dtk 17;(case hi=>rfl);(case hop=>(apply prd;apply p_nilCheck <;> rfl));(case hq=>kernel_rfl))
                  all_goals (apply dtk 18;(case hi=>rfl);(case hop=>(apply prd;apply p_fieldAddrB <;> rfl));(case hq=>kernel_rfl))
                  all_goals (apply dtk 19;(case hi=>rfl);(case hop=>(apply prd;apply p_fieldAddrB <;> rfl));(case hq=>kernel_rfl))
                  all_goals (apply d_store 20;(case hi=>rfl);(case hr=>kernel_rfl);(case hL=>infer_instance);(case hp=>rfl);(case hx=>rfl);(case hc=>rfl);(case hsz=>rfl);(case h1=>rfl);(case hb=>(repeat (first|exact mhd _|apply mtl)));(case hfit=>exact nle rfl);(case hov=>((repeat (first|with_reducible exact ov_nil|apply ov_cons));done));(case hu=>repeat (first|exact Upd.here _ _|apply Upd.there));(case hν'=>intro e he;(simp at he;simp [he];done)))
                  all_goals (apply dtk 21;(case hi=>rfl);(case hop=>(apply prd;apply p_nilCheck <;> rfl));(case hq=>kernel_rfl))
                  all_goals (apply dtk 22;(case hi=>rfl);(case hop=>(apply prd;apply p_fieldAddrB <;> rfl));(case hq=>kernel_rfl))
                  all_goals (apply dtk 23;(case hi=>rfl);(case hop=>(apply prd;apply p_fieldAddrB <;> rfl));(case hq=>kernel_rfl))
                  all_goals (apply d_store 24;(case hi=>rfl);(case hr=>kernel_rfl);(case hL=>infer_instance);(case hp=>rfl);(case hx=>rfl);(case hc=>rfl);(case hsz=>rfl);(case h1=>rfl);(case hb=>(repeat (first|exact mhd _|apply mtl)));(case hfit=>exact nle rfl);(case hov=>((repeat (first|with_reducible exact ov_nil|apply ov_cons));done));(case hu=>repeat (first|exact Upd.here _ _|apply Upd.there));(case hν'=>intro e he;(simp at he;simp [he];done)))
                  all_goals (apply dtk 25;(case hi=>rfl);(case hop=>(apply prd;apply p_nilCheck <;> rfl));(case hq=>kernel_rfl))
                  all_goals (apply dtk 26;(case hi=>rfl);(case hop=>(apply prd;apply p_fieldAddrB <;> rfl));(case hq=>kernel_rfl))
                  all_goals (apply dtk 27;(case hi=>rfl);(case hop=>(apply prd;apply p_fieldAddrB <;> rfl));(case hq=>kernel_rfl))
                  all_goals (apply d_store 28;(case hi=>rfl);(case hr=>kernel_rfl);(case hL=>infer_instance);(case hp=>rfl);(case hx=>rfl);(case hc=>rfl);(case hsz=>rfl);(case h1=>rfl);(case hb=>(repeat (first|exact mhd _|apply mtl)));(case hfit=>exact nle rfl);(case hov=>((repeat (first|with_reducible exact ov_nil|apply ov_cons));done));(case hu=>repeat (first|exact Upd.here _ _|apply Upd.there));(case hν'=>intro e he;(simp at he;simp [he];done)))
                  all_goals (apply d_done;(case hr=>kernel_rfl))
      all_goals
        repeat' (first|apply v_seq|apply v_region|apply v_nil|(apply v_pure;(case hop=>first|(apply p_assign <;> rfl)|(apply p_fieldAddrB <;> rfl)|(apply p_nilCheck <;> rfl)|fail);(case hd=>rfl))|(apply v_read;(case hop=>first|(apply r_loadNo;(case hx=>rfl);(case h=>(repeat (first|exact mhd _|apply mtl)));(case hd=>(repeat (first|with_reducible exact dt_nil|apply dt_here)));(case hn=>rfl))|(apply r_load1;rfl;(apply Cell.own;(case h=>(repeat (first|exact mhd _|apply mtl)));rfl))|fail);(case hd=>rfl))|(apply v_store;(case hp=>rfl);(case hx=>rfl);(case hc=>rfl);(case hsz=>rfl);(case h1=>rfl);(case hb=>(repeat (first|exact mhd _|apply mtl)));(case hfit=>exact nle rfl);(case hov=>((repeat (first|with_reducible exact ov_nil|apply ov_cons));done));(case hu=>repeat (first|exact Upd.here _ _|apply Upd.there)))|fail)
        refine v_retM [] (outsM_cell_tmp (vs:=ctL f (hdL (hardOf xs').pr (hardOf xs').pn (hardOf xs').base (.slice B0 (hardOf xs').image.length d0) (.slice B1 (hardOf xs').acc.length d1) (.slice B2 (hardOf xs').cho.length d2)) (xs'.length:Nat) (a':Nat)) (e:=50) rfl rfl rfl (by repeat (first|exact mhd _|apply mtl)) rfl) (by repeat (exact List.nil_sublist _)) ?_
        exact ⟨rfl,.inr ⟨f,xs',a',_,hR',rfl,_,_,_,rfl,hi,hac,hch⟩⟩
  · obtain ⟨h1,h2,h3⟩:=next_drop hw hn
    have hst:=recsF_step (decF f) (D:=D.length) (fun y hy=>hw y (List.mem_of_mem_drop hy)) (by rw [List.length_drop];omega) hn hd
    rw [h1] at hst
    refine v_perm ((hp'.append_left _).append_right _) ?_
    repeat' (first|apply v_nil|apply v_skip|apply v_block|(apply v_exit;(case hp=>rfl))|(apply v_condT;(case hc=>rfl))|fail)
    refine v_againI (D.length - t.length) rfl ⟨GH.le_trans hle hle2,h2,lv',xs ++ [x],ν',rfl,rfl,hg',by rw [List.length_append,List.length_singleton];omega,?_⟩ (by omega)
    rw [hrec,hst,List.append_assoc]
    rfl
def LgR (l:List Rc) (G:GH) (r:Value) (G':GH) (μ':OH):Prop:=G' = G ∧ μ' = [] ∧ ∃ b,r = .bool b ∧ (b = false → l.length ≤ 40 ∧ ∀ x ∈ l,¬ x.large ∧ x.image.length ≤ 300)
theorem rLarge_s {G:GH} {l:List Rc} {lv:Value} (hs:Rs G lv l):Con Tryz.prog 18 #[lv] G [] (LgR l G):=by
  obtain ⟨A,c,ivf,rfl,hlc,hcm,hsome,hcp,him,hok⟩:=rsOpen hs
  simp only [maxLen] at hcm
  (refine v_enter Tryz.func18 rfl Tryz.ntmps18 rfl ?_;intro B _)
  repeat' (first|apply v_seq|apply v_region|apply v_nil|apply v_block|(apply v_pure;(case hop=>(apply p_assign <;> rfl));(case hd=>rfl))|fail)
  refine v_loop [3,0] (fun us G' μ'=>G' = G ∧ μ' = [] ∧ ∃ k,k ≤ l.length ∧ us = [Value.int .i64 (k:Nat),.slice A l.length c] ∧ ∀ x ∈ l.take k,¬ x.large ∧ x.image.length ≤ 300) (fun us=>l.length - (headI us).toNat) rfl ⟨rfl,rfl,0,by omega,rfl,by simp⟩ ?_
  rintro us G' μ' ⟨rfl,rfl,k,hk,rfl,hall⟩
  have e1:((k:Nat):Int).toNat = k:=by omega
  by_cases hlt:k < l.length
  · have hcx:=hcp k hlt
    have hix:=him k hlt
    have hcok:=hok _ (List.getElem_mem hlt)
    have htk:=List.take_succ_eq_append_getElem hlt
    generalize hxe:l[k] = x at *
    generalize ivf k = iv at *
    obtain ⟨Ai,ci,rfl,hic,him2,-⟩:=id hix.openInt
    simp only [maxLen] at him2
    have hx:RcV G' x (.agg (recL x.kind x.round x.node x.index x.cmd (.slice Ai x.image.length ci)).toArray):=⟨_,rfl,hix⟩
    have ql:=recLarge_s hx hcok.1
    have hci:GH.cell? G' (((adr A).add (k * 12)).add 11) = some (.slice Ai x.image.length ci):=hcx.cell (j:=11) rfl
    have hlb:decide x.large = false → ¬ x.large:=of_decide_eq_false
    generalize decide x.large = lb at *
    repeat' (first|apply v_seq|apply v_region|apply v_nil|apply v_skip|apply v_block|apply v_blk|(apply v_exit;(case hp=>rfl))|(apply v_take;(case hg=>rfl))|(apply v_pass;(case hg=>rfl);(case hn=>rfl);(case hd=>rfl))|(apply v_pure;(case hop=>first|(apply p_move <;> rfl)|(apply p_lt <;> rfl)|(apply p_gt <;> rfl)|(apply p_assign <;> rfl)|(apply p_pickT <;> rfl)|(apply p_pickF <;> rfl)|(apply p_lenSlice <;> rfl)|(apply p_fieldAddr <;> rfl)|(apply p_add;(case hx=>rfl);(case hy=>rfl);(case h=>omega))|(apply p_indexAddrS;(case hx=>rfl);(case hi=>rfl);(case h0=>omega);(case h=>omega);(case hA=>(apply_assumption;omega)))|fail);(case hd=>rfl))|(apply v_condT;(case hc=>rfl))|(apply v_cond;(case hc=>rfl);all_goals (intro h;(try simp only [reduceCtorEq,zzz] at h)))|(apply v_guardB;(case h1=>rfl);(case h2=>rfl);all_goals (intro h;(try simp only [reduceCtorEq,zzz] at h);first|(exfalso;omega)|skip))|(apply v_read;(case hop=>first|(apply r_loadN;rfl;exact CellsAt.frozen hcx;rfl)|(apply r_load1;rfl;exact Cell.frozen hci));(case hd=>rfl))|(apply v_callJ (hs:=ql);(case ha=>rfl);(case hd=>rfl))|fail)
    all_goals first
      | (refine v_ret [] (outsA1 rfl rfl) (by repeat (exact List.Sublist.refl _)) ?_
         refine ⟨rfl,rfl,_,rfl,fun h=>?_⟩
         first|(cases h;done)|(have:=dec_false.1 h;exact ⟨by omega,fun y hy=>hall y (by rw [List.take_of_length_le (by omega)];exact hy)⟩))
      | (refine v_again rfl ⟨rfl,rfl,k + 1,by omega,rfl,fun y hy=>?_⟩ (by simp [headI];omega)
         rw [htk] at hy
         rcases List.mem_append.1 hy with hy|hy
         · exact hall y hy
         · obtain rfl:=List.mem_singleton.1 hy
           exact ⟨hlb (by assumption),by omega⟩)
      | skip
    all_goals vx_show
  · obtain rfl:k = l.length:=by omega
    rw [List.take_length] at hall
    repeat' (first|apply v_seq|apply v_region|apply v_nil|(apply v_exit;(case hp=>rfl))|(apply v_pass;(case hg=>rfl);(case hn=>rfl);(case hd=>rfl))|(apply v_pure;(case hop=>first|(apply p_move <;> rfl)|(apply p_lt <;> rfl)|(apply p_gt <;> rfl)|(apply p_assign <;> rfl)|(apply p_pickF <;> rfl)|(apply p_lenSlice <;> rfl)|fail);(case hd=>rfl))|(apply v_condF;(case hc=>rfl))|(apply v_guardB;(case h1=>rfl);(case h2=>rfl);all_goals (intro h;(try simp only [reduceCtorEq,zzz] at h);first|(exfalso;omega)|skip))|fail)
    all_goals
      (refine v_ret [] (outsA1 rfl rfl) (by repeat (exact List.Sublist.refl _)) ?_
       refine ⟨rfl,rfl,_,rfl,fun h=>?_⟩
       have:=dec_false.1 h
       exact ⟨by omega,hall⟩)
theorem readF_file {f:Int} {n:Nat} {xs:List Rc} (hf:f = 1 ∨ f = 2) (hn:n ≤ xs.length) (hx:∀ x ∈ xs,okC (encF f) (decF f) x) (hbig:(xs.length:Int) ≤ 9223372036854775807):readF decF (fileB encF f n xs) = some (f,xs,(fileB encF f n xs).length):=by
  obtain ⟨-,h⟩:=readF_cut encF decF (m:=(fileB encF f n xs).length) hf hn hx hbig (Nat.le_refl _)
  have he:endN encF f n xs xs.length = (fileB encF f n xs).length:=by
    unfold endN fileB
    rw [List.take_length,List.length_append]
  have hm:endN encF f n xs n ≤ (fileB encF f n xs).length:=by
    rw [← he]
    unfold endN
    have:=flatF_len_take (encF f) xs n
    rw [List.take_length]
    omega
  obtain ⟨K,h1,h2,h3,h4,h5⟩:=h (by omega)
  have hK:K = xs.length:=Nat.le_antisymm h2 (h4 _ (Nat.le_refl _) (by omega))
  subst hK
  rw [List.take_length,List.take_length,he] at h5
  exact h5
theorem recs_zero:recsOf Hd.zero = []:=by
  rw [recsOf_parts]
  simp [part2,part1,Hd.zero]
theorem check_zero:CheckP Hd.zero:=by
  refine ⟨.inl ⟨rfl,rfl⟩,⟨by decide,by decide⟩,by decide,by decide,?_,?_,(fun e he=>absurd he List.not_mem_nil),(fun e he=>absurd he List.not_mem_nil)⟩
  · exact chk_of (l:=[]) (fun x hx=>by cases hx) (fun i j hj=>by simp at hj) _ 0 rfl
  · exact chk_of (l:=[]) (fun x hx=>by cases hx) (fun i j hj=>by simp at hj) _ 0 rfl
theorem file_zero:(fileB encF 1 0 []).length = 7:=by
  have e1:vbytes 1 = [1]:=by decide +kernel
  have e2:vbytes (0:Nat) = [0]:=by decide +kernel
  have e3:vbytes ((2:Nat):Int) = [2]:=by decide +kernel
  unfold fileB
  rw [e1,e2,List.length_append,frB_len]
  show (vbytes ((2:Nat):Int)).length + 2 + 4 + 0 = 7
  rw [e3]
  rfl
theorem awake20_s {G:GH} (hT:TabsG G) (hC:CrcG G):Con Tryz.prog 11 #[] G [] (Just (.bool true) G):=by
  apply Con.just
  have hno:headNo 1 Hd.zero = 0:=by
    unfold headNo
    rw [if_pos (.inl rfl),if_pos check_zero,recs_zero]
    rfl
  have qh:=head_s hT hC 1 (hd_zero G) (fun _=>good_zero) (by omega) (by decide) (by rw [recs_zero];decide) (fun _ x hx=>by rw [recs_zero] at hx;cases hx)
  rw [hno,recs_zero,if_pos rfl] at qh
  have h7:=file_zero
  have hrd:=readF_file (f:=1) (n:=0) (xs:=[]) (.inl rfl) (by decide) (fun x hx=>by cases hx) (by decide)
  rw [h7] at hrd
  rw [show fileB encF 1 [].length [] = fileB encF 1 0 [] from rfl] at qh
  generalize fileB encF 1 0 [] = D at *
  (refine v_enter Tryz.func11 rfl Tryz.ntmps11 rfl ?_;intro B _)
  repeat' (first|apply v_seq|apply v_region|apply v_nil|(apply v_pure;(case hop=>first|(apply p_assign <;> rfl)|(apply p_build;(case hz=>rfl);(case hv=>(simp only [List.map_cons,List.map_nil];repeat (with_reducible exact evs_nil)));(case hb=>(apply bldL;repeat (exact bld_nil))))|fail);(case hd=>rfl))|fail)
  refine v_call (μ1:=[]) rfl qh (List.Perm.refl _) rfl ?_
  rintro _ G1 _ hle1 ⟨rfl,v1,rfl,s1⟩
  have q2:=sread_s (hT.le hle1) (hC.le hle1) s1 (by omega) (fun f xs k h=>by rw [hrd] at h;cases h;decide)
  have h7':=h7
  obtain ⟨A1,c1,rfl,-⟩:=id s1.openInt
  repeat' (first|apply v_seq|apply v_region|apply v_nil|(apply v_pure;(case hop=>first|(apply p_move <;> rfl)|(apply p_assign <;> rfl)|(apply p_extract0 <;> rfl)|(apply p_extract1 <;> rfl)|fail);(case hd=>rfl))|fail)
  refine v_call (μ1:=[]) rfl q2 (List.Perm.refl _) rfl ?_
  rintro _ G2 _ hle2 ⟨rfl,⟨hn,-⟩|⟨f,xs,k,L,hR,rfl,hL⟩⟩
  · rw [hrd] at hn;cases hn
  rw [hrd] at hR
  cases hR
  obtain ⟨iv,av,cv,rfl,hi,hac,hch⟩:=hL
  obtain ⟨B0,d0,rfl,-⟩:=id hi.openInt
  obtain ⟨B1,d1,rfl,-⟩:=id hac.open
  obtain ⟨B2,d2,rfl,-⟩:=id hch.open
  rw [h7]
  repeat' (first|apply v_seq|apply v_region|apply v_nil|(apply v_take;(case hg=>rfl))|(apply v_pure;(case hop=>first|(apply p_move <;> rfl)|(apply p_eqs <;> rfl)|(apply p_assign <;> rfl)|(apply p_pickT <;> rfl)|(apply p_lenSlice <;> rfl)|(apply p_fieldAddrB <;> rfl)|(apply p_extract0 <;> rfl)|(apply p_extract1 <;> rfl)|fail);(case hd=>rfl))|(apply v_read;(case hop=>(apply r_load1;rfl;(apply Cell.own;(case h=>(repeat (exact mhd _)));rfl)));(case hd=>rfl))|(apply v_alloc;(case hz=>rfl);(case hd=>rfl);intro b)|(apply v_store;(case hp=>rfl);(case hx=>rfl);(case hc=>rfl);(case hsz=>rfl);(case h1=>rfl);(case hb=>(repeat (exact mhd _)));(case hfit=>exact nle rfl);(case hov=>((repeat (first|with_reducible exact ov_nil|apply ov_cons));done));(case hu=>repeat (exact Upd.here _ _)))|fail)
  all_goals
    (refine v_ret [] (outsA1 rfl rfl) (by repeat (exact List.nil_sublist _)) ?_
     exact ⟨rfl,rfl⟩)
theorem el_ent {H:Type} {enc:TypeId × Value → H} {W:World}:Elem enc Tryz.prog W 97 EntR:=by
  intro fuel cs x hf
  have h1:=el_flen (n:=10) Tryz.underlying97 (by kernel_rfl) hf
  obtain ⟨k,hk,wk⟩:=el_fld (i:=0) (sz:=1) (by kernel_rfl) (el_int Tryz.underlying3) hf
  have hb:Elem enc Tryz.prog W 23 (fun (p:Int × Int) cs=>cs = [.int .i64 p.1,.int .i64 p.2] ∧ (Lit.int .i64 p.1).wf = true ∧ (Lit.int .i64 p.2).wf = true):=by
    intro fuel cs x hf
    have h1:=el_flen (n:=2) Tryz.underlying23 (by kernel_rfl) hf
    obtain ⟨a,ha,wa⟩:=el_fld (i:=0) (sz:=1) (by kernel_rfl) (el_int Tryz.underlying3) hf
    obtain ⟨b,hb,wb⟩:=el_fld (i:=1) (sz:=1) (by kernel_rfl) (el_int Tryz.underlying3) hf
    match cs,h1 with
    | [c0,c1],_ =>
      simp only [List.drop_succ_cons,List.drop_zero,List.take_succ_cons,List.take_zero,List.cons.injEq,and_true] at ha hb
      exact ⟨(a,b),by rw [ha,hb],wa,wb⟩
  obtain ⟨⟨r,n⟩,hr,wr,wn⟩:=el_fld (i:=1) (sz:=2) (by kernel_rfl) hb hf
  obtain ⟨c,hc,ho⟩:=el_fld (i:=2) (sz:=7) (by kernel_rfl) el_cm hf
  match cs,h1 with
  | [c0,c1,c2,c3,c4,c5,c6,c7,c8,c9],_ =>
    simp only [Cm.cells,List.drop_succ_cons,List.drop_zero,List.take_succ_cons,List.take_zero,List.cons.injEq,and_true] at hk hr hc
    obtain ⟨rfl,rfl⟩:=hr
    obtain ⟨rfl,rfl,rfl,rfl,rfl,rfl,rfl⟩:=hc
    subst hk
    exact ⟨⟨k,r,n,c⟩,rfl,wk,wr,wn,ho⟩
theorem el_hard {H:Type} {enc:TypeId × Value → H} {W:World} {fuel:Nat} {cs:List Value} {x:DataW H × List MemPlace} (hf:DataW.trod enc Tryz.prog W 0 (fun _=>true) true fuel 27 cs = some x):∃ y:Hd,HdV (ghost W) y cs:=by
  have h1:=el_flen (n:=6) Tryz.underlying27 (by kernel_rfl) hf
  have hb:Elem enc Tryz.prog W 23 (fun (p:Int × Int) cs=>cs = [.int .i64 p.1,.int .i64 p.2] ∧ (Lit.int .i64 p.1).wf = true ∧ (Lit.int .i64 p.2).wf = true):=by
    intro fuel cs x hf
    have h1:=el_flen (n:=2) Tryz.underlying23 (by kernel_rfl) hf
    obtain ⟨a,ha,wa⟩:=el_fld (i:=0) (sz:=1) (by kernel_rfl) (el_int Tryz.underlying3) hf
    obtain ⟨b,hb,wb⟩:=el_fld (i:=1) (sz:=1) (by kernel_rfl) (el_int Tryz.underlying3) hf
    match cs,h1 with
    | [c0,c1],_ =>
      simp only [List.drop_succ_cons,List.drop_zero,List.take_succ_cons,List.take_zero,List.cons.injEq,and_true] at ha hb
      exact ⟨(a,b),by rw [ha,hb],wa,wb⟩
  obtain ⟨⟨r,n⟩,hr,wr,wn⟩:=el_fld (i:=0) (sz:=2) (by kernel_rfl) hb hf
  obtain ⟨i,hi,wi⟩:=el_fld (i:=1) (sz:=1) (by kernel_rfl) (el_int Tryz.underlying3) hf
  obtain ⟨im,v,hv,hl⟩:=el_fld (i:=2) (sz:=1) (by kernel_rfl) (el_slice (sz:=1) Tryz.underlying24 (by kernel_rfl) (el_int Tryz.underlying5)) hf
  obtain ⟨ac,va,hva,hla⟩:=el_fld (i:=3) (sz:=1) (by kernel_rfl) (el_slice (sz:=10) Tryz.underlying25 (by kernel_rfl) el_ent) hf
  obtain ⟨ch,vc,hvc,hlc⟩:=el_fld (i:=4) (sz:=1) (by kernel_rfl) (el_slice (sz:=10) Tryz.underlying25 (by kernel_rfl) el_ent) hf
  match cs,h1 with
  | [c0,c1,c2,c3,c4,c5],_ =>
    simp only [List.drop_succ_cons,List.drop_zero,List.take_succ_cons,List.take_zero,List.cons.injEq,and_true] at hr hi hv hva hvc
    obtain ⟨rfl,rfl⟩:=hr
    subst hi;subst hv;subst hva;subst hvc
    exact ⟨⟨r,n,i,im,ac,ch⟩,_,_,_,rfl,hl,hla,hlc⟩
set_option maxRecDepth 100000 in
theorem arg_t27 {H:Type} {enc:TypeId × Value → H} {W:World} {base:Nat} {v:Value} {d:DataW H} {p:List MemPlace} (hv:Value.okWide Tryz.prog W .any base 27 v) (h:DataW.Trod enc Tryz.prog W 0 (fun _=>true) true 27 v d p):∃ (y:Hd) (cs:List Value),v = .agg cs.toArray ∧ HdV (ghost W) y cs:=by
  obtain ⟨cs,rfl⟩:=okWide_agg (by kernel_rfl) hv
  obtain ⟨fuel,hf⟩:=h
  obtain ⟨y,hy⟩:=el_hard hf
  exact ⟨y,_,rfl,hy⟩
theorem el_rec {H:Type} {enc:TypeId × Value → H} {W:World}:Elem enc Tryz.prog W 42 (RcR (ghost W)):=by
  intro fuel cs x hf
  obtain ⟨y,⟨iv,he,hs⟩,hc,hw⟩:=el_rcb hf
  refine ⟨y,iv,?_,hc,hw,hs⟩
  have:=congrArg (fun v=>match v with|Value.agg a=>a.toList|_ => []) he
  simpa using this
set_option maxRecDepth 100000 in
theorem arg_t34 {H:Type} {enc:TypeId × Value → H} {W:World} {base:Nat} {v:Value} {d:DataW H} {p:List MemPlace} (hv:Value.okWide Tryz.prog W .any base 34 v) (h:DataW.Trod enc Tryz.prog W 0 (fun _=>true) true 34 v d p):∃ l,Rs (ghost W) v l :=
  arg_slice Tryz.underlying34 (by kernel_rfl) el_rec hv h
abbrev IsTwo (v:Value):Prop := ∃ a b:Int,v = .agg [.int .i64 a,.int .i64 b].toArray ∧ (Lit.int .i64 a).wf = true ∧ (Lit.int .i64 b).wf = true
set_option maxRecDepth 100000 in
theorem arg_t46 {H:Type} {enc:TypeId × Value → H} {W:World} {base:Nat} {v:Value} {d:DataW H} {p:List MemPlace} (hv:Value.okWide Tryz.prog W .any base 46 v) (h:DataW.Trod enc Tryz.prog W 0 (fun _=>true) true 46 v d p):IsTwo v:=by
  obtain ⟨cs,l,rfl,hl⟩:=arg_agg (by kernel_rfl) (el_array Tryz.underlying46 (by kernel_rfl) (by kernel_rfl) (el_int Tryz.underlying3)) hv h
  obtain ⟨x,rfl,h1,h2⟩:=hl.pair
  exact ⟨x.1,x.2,rfl,h1,h2⟩
def crcTab:List Int:=[0,498536548,997073096,651767980,1994146192,1802195444,1303535960,1342533948,3988292384,4027552580,3604390888,3412177804,2607071920,2262029012,2685067896,3183342108]
theorem crcTab_at:∀ i,i < 16 → crcTab[i]? = some ((tab i).toNat:Int):=by decide +kernel
theorem crcEq:(Rows.laid_changeover_crc_table:DataW Unit) = Lib.tabData .u32 crcTab:=by kernel_rfl
abbrev tabsLaid3:List (String × DataW Unit):=[("unicode/utf8.acceptRanges",Rows.laid_unicode_utf8_acceptRanges),("changeover/crc.table",Rows.laid_changeover_crc_table),("unicode/utf8.first",Rows.laid_unicode_utf8_first)]
theorem tabs3_plain:(tabsLaid3.all fun x=>x.2.handleName?.isNone) = true:=by kernel_rfl
theorem tabs3_of_laid {W:World} (hL:laidMetH Tryz.prog tabsLaid3 W):TabsG (ghost W) ∧ CrcG (ghost W):=by
  rw [MakeChecks.laidMetH_plain _ _ _ tabs3_plain] at hL
  have r1:=Lib.laidMet.reads hL (.tail _ (.tail _ (.head _)))
  have r2:=Lib.laidMet.reads hL (.head _)
  have r3:=Lib.laidMet.reads hL (.tail _ (.head _))
  rw [firstEq] at r1
  rw [acceptEq] at r2
  rw [crcEq] at r3
  have hU:=utf8Tabs_of_readsT (ρ:=laysDecode_ren) { laysDecode with } ⟨by kernel_rfl,by kernel_rfl,by kernel_rfl,by kernel_rfl,by kernel_rfl,by kernel_rfl,by kernel_rfl⟩ r1 r2
  clear hL r1 r2
  constructor
  · intro w hw
    have lift:∀ (a:Addr) v,W.cell? a = some v → w.cell? a = some v:=by
      intro a v h
      unfold World.cell? at h ⊢
      cases hb:W.heap[a.block]? with
      | none=>rw [hb] at h;simp at h
      | some o=>rw [hw _ _ hb];rw [hb] at h;exact h
    exact ⟨fun c hc=>lift _ _ (hU.1 c hc),fun i hi=>⟨lift _ _ (hU.2 i hi).1,lift _ _ (hU.2 i hi).2⟩⟩
  · obtain ⟨g,t,cs,fuel,p,hg,hty,hvar,hd⟩:=r3
    obtain rfl:=Option.some.inj ((show Tryz.prog.globalNamed "changeover/crc.table" = some 0 by kernel_rfl).symm.trans hg)
    obtain rfl:=Option.some.inj ((show (Tryz.prog.globals[0]?).map (·.type) = some 240 by kernel_rfl).symm.trans hty)
    have hcs:=Lib.cells_of_tab Tryz.underlying240 Tryz.underlying135 (by kernel_rfl) (by kernel_rfl) hd
    intro i hi
    rw [ghost_cell]
    have:=World.var?_cell hg hvar i
    rw [this,← Array.getElem?_toList,hcs,List.getElem?_map,crcTab_at i hi]
    rfl
theorem recs_light {H:Hd} (h:CheckP H) (hi:H.image.length ≤ 300):∀ x ∈ recsOf H,¬ x.large ∧ x.image.length ≤ 300:=by
  obtain ⟨-,-,-,-,ha,hc,-,-⟩:=h
  have key:∀ e:Ent,oneI e = 0 → e.cmd.key.size ≤ 24 ∧ e.cmd.val.size ≤ 48 ∧ e.cmd.old.size ≤ 48:=fun e he=>cmdSz (one_parts he).2.2.2
  have hz:zeroCm.key.size = 0 ∧ zeroCm.val.size = 0 ∧ zeroCm.old.size = 0:=⟨rfl,rfl,rfl⟩
  have hz2:zeroC.key.size = 0 ∧ zeroC.val.size = 0 ∧ zeroC.old.size = 0:=⟨rfl,rfl,rfl⟩
  intro x hx
  rw [recsOf_parts] at hx
  unfold part2 part1 at hx
  simp only [List.mem_append,List.mem_map] at hx
  unfold Rc.large
  obtain ((hx|hx)|⟨e,he,rfl⟩)|⟨e,he,rfl⟩:=hx
  · split at hx
    · obtain rfl:=List.mem_singleton.1 hx
      simp only [imgRec]
      omega
    · cases hx
  · split at hx
    · cases hx
    · obtain rfl:=List.mem_singleton.1 hx
      simp only [promRec,List.length_nil]
      omega
  · have:=key e (chk_one ha e he)
    simp only [accRec,List.length_nil]
    omega
  · have:=key e (chk_one hc e he)
    simp only [choRec,List.length_nil]
    omega
theorem recs_okF {H:Hd} (h:CheckP H) (hi:H.image.length ≤ 300) {f:Int} (he:errsF f (recsOf H) = 0):∀ x ∈ recsOf H,OkF f x:=fun x hx=>⟨errsF_at he x hx,(recs_light h hi x hx).2⟩
end Go.Proofs.YtpemabgfmnhhnaaGreatDoor
