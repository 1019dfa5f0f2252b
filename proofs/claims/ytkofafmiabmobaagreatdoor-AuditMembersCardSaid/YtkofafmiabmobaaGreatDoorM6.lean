/-
  The reference 30: Run.
-/
import Derived.Test.YtkofafmiabmobaaGreatDoorM5
import Derived.Test.YtkofafmiabmobaaGreatDoorM4
import Derived.Test.YtkofafmiabmobaaGreatDoorM3
import Derived.Lib.LaidU8T
import Derived.MakeChecks
import Derived.Test.YtkofafmiabmobaaGreatDoorRows
import Derived.Test.YtkofafmiabmobaaGreatDoorM1
import Derived.Lib.LaidTab
import Derived.Test.YtkofafmiabmobaaGreatDoorChecked
import Derived.JoinedOf
import Derived.SevenTiedAt
import Derived.LaidMore
import Derived.Lay
import Derived.Test.YtkofafmiabmobaaGreatDoorTie
import Derived.Test.YtkofafmiabmobaaGreatDoorCards
import Derived.Stop.Joined
set_option linter.unusedSimpArgs false
set_option linter.unusedVariables false
namespace Go.Proofs.YtkofafmiabmobaaGreatDoor
open Go.Vx Go.ChangeShapes Go.WideShapes Go.ChangeAt Go.RowKit
noncomputable def runW (m:Im):List Cm→Im
 | []=>m
 | c::l=>if cmdI c≠0 then runW m l else runW (nextI m c) l
abbrev imB (T:Nat) (b:Nat) (m:Im) (C:Option Addr) (cc:Nat) (A:Option Addr) (c:Nat) (A':Option Addr) (c':Nat):Nat×Obj:=(b,.cells [.int .i64 m.index,.int .i64 m.active,.slice C m.confs.length cc,.int .i64 m.st.schema,.slice A m.st.pairs.length c,.slice A' m.st.sess.length c'].toArray T (0,0))
set_option maxHeartbeats 1000000 in
theorem refWRun_s {G:GH}{ml:List Int}{sv lv:Value}{l:List Cm}(hs:Sl G 1 (IntR .i64) sv ml) (hok:ConfOK [(1,ml)]) (hl:Cms G lv l) (hlw:CmsW l) :
 Con Tryz.prog 27 #[sv,lv] G [] (fun r G' μ'=>∃ v' av,r=.tuple [v',av].toArray∧ImV G' (runW ⟨0,0,[(1,ml)],emp⟩ l) v'):=by
 obtain ⟨LA,lc,rfl,hlc,hcm,hsome,hcp⟩:=rowOpen hl
 simp only [maxLen] at hcm
 obtain ⟨SA,sc,rfl,-⟩:=id hs.openInt
 have hm0:ImP ⟨0,0,[(1,ml)],emp⟩:=⟨⟨by simp,by simp,by simp,by simp⟩,hok,emp_ok,by simp⟩
 (refine v_enter Tryz.func27 rfl Tryz.ntmps27 rfl ?_;intro B _)
 repeat' (first|apply v_alloc (d:=4);(case hz|hd=>rfl);intro b4|apply v_alloc (d:=6);(case hz|hd=>rfl);intro b6|apply v_buildSlice;(case hz|hi=>rfl);(case hv=>(simp only [List.map_cons,List.map_nil];repeat (first|with_reducible exact evs_nil|apply evs_cons;(case h1=>rfl))));(case hp=>(first|with_reducible exact pk_nil|apply pk_cons;(case hc|hs=>rfl);(case h=>(first|with_reducible exact pk_nil|apply pk_cons;(case hc|hs=>rfl);(case h=>(first|with_reducible exact pk_nil|apply pk_cons;(case hc|hs=>rfl);(case h=>(first|with_reducible exact pk_nil|apply pk_cons;(case hc|hs=>rfl);(case h=>(first|with_reducible exact pk_nil|apply pk_cons;(case hc|hs=>rfl);(case h=>(first|with_reducible exact pk_nil|apply pk_cons;(case hc|hs=>rfl);(case h=>(first|with_reducible exact pk_nil|apply pk_cons;(case hc|hs=>rfl);(case h=>(first|with_reducible exact pk_nil|apply pk_cons;(case hc|hs=>rfl);(case h=>(with_reducible exact pk_nil));(case he=>(first|((repeat (first|with_reducible exact ap_nil|apply ap_cons));done)|rfl))|rfl));(case he=>(first|((repeat (first|with_reducible exact ap_nil|apply ap_cons));done)|rfl))|rfl));(case he=>(first|((repeat (first|with_reducible exact ap_nil|apply ap_cons));done)|rfl))|rfl));(case he=>(first|((repeat (first|with_reducible exact ap_nil|apply ap_cons));done)|rfl))|rfl));(case he=>(first|((repeat (first|with_reducible exact ap_nil|apply ap_cons));done)|rfl))|rfl));(case he=>(first|((repeat (first|with_reducible exact ap_nil|apply ap_cons));done)|rfl))|rfl));(case he=>(first|((repeat (first|with_reducible exact ap_nil|apply ap_cons));done)|rfl))|rfl));(case he=>(first|((repeat (first|with_reducible exact ap_nil|apply ap_cons));done)|rfl))|rfl));(case hb|hd=>rfl);intro b9|refine Wa ?_|(refine Wc ⟨?_,?_⟩<;>first|exact True.intro|intro h)|refine Wr ?_|(refine Wb ?_;intro b)|fail)
 refine v_frz [(b9,.cells [Value.int .i64 1,.slice SA ml.length sc].toArray 71 (0,0))] (by repeat (first|exact PickA.last|exact PickA.here _|exact PickA.one _|apply PickA.cons|apply PickA.app)) ?_
 intro G0 hle0 hG0
 have hC:=Cos.made1 (x:=1) (WalkArith.wf_i64 (by decide)) (hs.mono hle0) (hG0 _ _ aM)
 have hv0:ImV G0 ⟨0,0,[(1,ml)],emp⟩ _:=ImV.mk' (x:=0) (a:=0) hC (emp_v G0)
 refine v_perm (ν:=[(b4,Obj.cells [.int .i64 0,.int .i64 0,.slice none 0 0,.int .i64 0,.slice none 0 0,.slice none 0 0].toArray 59 (0,0)),(b6,.cells [.int .i64 0,.int .i64 0,.slice (some ⟨b9,0,none⟩) 1 1,.int .i64 1,.slice none 0 0,.slice none 0 0].toArray 59 (0,0))]) aV ?_
 generalize hmm:(⟨0,0,[(1,ml)],emp⟩:Im)=m0 at *
 refine v_loop [8,6,1,7,4] (fun us G' μ'=>GH.le G0 G'∧∃ (k:Nat) (m1:Im) (C1:Option Addr) (cc1:Nat) (A1:Option Addr) (c1:Nat) (A1':Option Addr) (c1':Nat) (acc:List An) (av:Value) (ν:OH),k≤l.length∧us=[Value.int .i64 (k:Nat),.pointer (some ⟨b6,0,none⟩),.slice LA l.length lc,av,.pointer (some ⟨b4,0,none⟩)]∧μ'=(b4,Obj.cells [.int .i64 0,.int .i64 0,.slice none 0 0,.int .i64 0,.slice none 0 0,.slice none 0 0].toArray 59 (0,0))::imB 59 b6 m1 C1 cc1 A1 c1 A1' c1'::ν∧GrA av acc ν∧ImV G' m1 (.agg [.int .i64 m1.index,.int .i64 m1.active,.slice C1 m1.confs.length cc1,.int .i64 m1.st.schema,.slice A1 m1.st.pairs.length c1,.slice A1' m1.st.sess.length c1'].toArray)∧ImP m1∧m1.index≤k∧m1.confs.length≤k+1∧acc.length≤k∧runW m0 l=runW m1 (l.drop k)) (fun us=>l.length-(headI us).toNat) rfl ?_ ?_
 ·subst hmm
  exact ⟨GH.le_refl _,0,⟨0,0,[(1,ml)],emp⟩,some ⟨b9,0,none⟩,1,none,0,none,0,[],.slice none 0 0,[],by omega,rfl,rfl,Grow.nil _ _,hv0,hm0,by simp,by simp,Nat.le_refl _,rfl⟩
 rintro us G' _ ⟨hle,k,m1,C1,cc1,A1,c1,A1',c1',acc,av,ν,hk,rfl,rfl,hga,hm1,hok1,hix,hcl,hak,hrun⟩
 have hn:=hlw.1
 by_cases hlt:k<l.length
 ·have e1:((k:Nat):Int).toNat=k:=by omega
  have hA:=hsome (by omega)
  have hle':=GH.le_trans hle0 hle
  have hck:=(rowOpen' (hl.mono hle')).2.2.2.2.2.2 k hlt
  have hck2:=fun G2 (h2:GH.le G' G2)=>(rowOpen' (hl.mono (GH.le_trans hle' h2))).2.2.2.2.2.2 k hlt
  obtain ⟨hxo,hxw⟩:=hlw.2 _ (List.getElem_mem hlt)
  have hcc:=refCmdCheck_s (G:=G') (l[k]) hxo
  have hco:=hok1.2.1.coZ (by omega)
  have hap:=fun G2 (h2:GH.le G' G2) (h0:cmdI l[k]=0)=>refWApply_s (hm1.up h2) hok1 (by omega) hco (l[k]) h0 hxo hxw.1
  have hnx:runW m0 l=if cmdI l[k]≠0 then runW m1 (l.drop (k+1)) else runW (nextI m1 l[k]) (l.drop (k+1)):=by
   rw [hrun,List.drop_eq_getElem_cons hlt];rfl
  have hkp:cmdI l[k]=0→ImP (nextI m1 l[k])∧(nextI m1 l[k]).index≤(k:Int)+1∧(nextI m1 l[k]).confs.length≤k+1+1:=fun h=>⟨nextI_ok hok1 (by omega) h,by show m1.index+1≤_;omega,by have:=nextI_len (c:=l[k]) hok1 (by omega);omega⟩
  clear hrun hxo hxw hco
  generalize applyS m1.st l[k]=ap at *
  obtain ⟨s5,⟨ac,aq,ae,af,av5,ar⟩,e5⟩:=ap
  generalize nextI m1 l[k]=m5 at *
  generalize l[k]=x at *
  generalize cmdI x=ci at *
  obtain ⟨kind,cl,seq,key,val,old,node⟩:=x
  simp only at *
  repeat' (first|refine Wa ?_|(refine Wc ⟨?_,?_⟩<;>first|exact True.intro|intro h)|refine RN hck ?_|refine Wr ?_|(refine Wb ?_;intro b)|fail)
  refine cQ rfl hcc ?_
  rintro _ G5 _ hle5 ⟨rfl,rfl⟩
  have hck5:=hck2 G5 hle5
  have hap5:=hap G5 hle5
  repeat' (first|refine Wa ?_|(refine Wc ⟨?_,?_⟩<;>first|exact True.intro|intro h)|refine Wr ?_|(refine Wb ?_;intro b)|fail)
  ·rw [if_pos (by assumption)] at hnx
   exact Va rfl ⟨GH.le_trans hle hle5,k+1,m1,C1,cc1,A1,c1,A1',c1',acc,av,ν,by omega,rfl,rfl,hga,hm1.up hle5,hok1,by omega,by omega,by omega,hnx⟩
  ·have hci:ci=0:=by assumption
   rw [if_neg (by simp [hci])] at hnx
   have hap6:=hap5 hci
   obtain ⟨hk5,hi5,hl5⟩:=hkp hci
   refine Dz [imB 59 b6 m1 C1 cc1 A1 c1 A1' c1'] ?_
   all_goals (first|refine TN 0 hck5 ?_|refine Dt [0] ?_)
   all_goals refine Dt [1,2,3] ?_
   all_goals (first|refine TN 4 hck5 ?_|refine Dt [4] ?_)
   focus
    refine d_fork3 5 9 10 (by kernel_rfl) ?_ ?_ ?_
    rotate_right
    focus
     first|apply x_call 10 (hs:=hap6) (μ1:=[]);(case hi|ha=>rfl);(case hp=>exact List.Perm.refl _);(case hd=>rfl);(case hν'=>intro e he;simp only [List.mem_cons,List.not_mem_nil,or_false] at he;rcases he with rfl;simp);rintro _ G6 _ hle6 ⟨rfl,v6,rfl,hm6⟩;obtain ⟨C6,cc6,A6,c6,A6',c6',rfl,hC6,hp6,hss6⟩:=id hm6|apply d_exec (d:=9) 10;(case hi=>rfl);(case hop=>exact m_alloc rfl);(case hd=>rfl);rintro _ G0 _ ⟨b9,rfl,hG0,rfl⟩;subst G0;refine ⟨(by intro e he;simp only [List.mem_cons,List.not_mem_nil,or_false] at he;rcases he with rfl;simp),?_⟩|apply x_exec (d:=9) 10;(case hi=>rfl);(case hop=>exact m_alloc rfl);(case hd=>rfl);rintro _ G0 _ ⟨b9,rfl,hG0,rfl⟩;subst G0;refine ⟨(by intro e he;simp only [List.mem_cons,List.not_mem_nil,or_false] at he;rcases he with rfl;simp),?_⟩|apply d_exec (d:=10) 10;(case hi=>rfl);(case hop=>exact m_alloc rfl);(case hd=>rfl);rintro _ G0 _ ⟨b10,rfl,hG0,rfl⟩;subst G0;refine ⟨(by intro e he;simp only [List.mem_cons,List.not_mem_nil,or_false] at he;rcases he with rfl;simp),?_⟩|apply x_exec (d:=10) 10;(case hi=>rfl);(case hop=>exact m_alloc rfl);(case hd=>rfl);rintro _ G0 _ ⟨b10,rfl,hG0,rfl⟩;subst G0;refine ⟨(by intro e he;simp only [List.mem_cons,List.not_mem_nil,or_false] at he;rcases he with rfl;simp),?_⟩|fail
     focus
      refine d_fork 5 9 (by kernel_rfl) ?_ ?_
      rotate_right
      focus
       first|apply x_call 9 (hs:=hap6) (μ1:=[]);(case hi|ha=>rfl);(case hp=>exact List.Perm.refl _);(case hd=>rfl);(case hν'=>intro e he;simp only [List.mem_cons,List.not_mem_nil,or_false] at he;rcases he with rfl;simp);rintro _ G6 _ hle6 ⟨rfl,v6,rfl,hm6⟩;obtain ⟨C6,cc6,A6,c6,A6',c6',rfl,hC6,hp6,hss6⟩:=id hm6|apply d_exec (d:=9) 9;(case hi=>rfl);(case hop=>exact m_alloc rfl);(case hd=>rfl);rintro _ G0 _ ⟨b9,rfl,hG0,rfl⟩;subst G0;refine ⟨(by intro e he;simp only [List.mem_cons,List.not_mem_nil,or_false] at he;rcases he with rfl;simp),?_⟩|apply x_exec (d:=9) 9;(case hi=>rfl);(case hop=>exact m_alloc rfl);(case hd=>rfl);rintro _ G0 _ ⟨b9,rfl,hG0,rfl⟩;subst G0;refine ⟨(by intro e he;simp only [List.mem_cons,List.not_mem_nil,or_false] at he;rcases he with rfl;simp),?_⟩|apply d_exec (d:=10) 9;(case hi=>rfl);(case hop=>exact m_alloc rfl);(case hd=>rfl);rintro _ G0 _ ⟨b10,rfl,hG0,rfl⟩;subst G0;refine ⟨(by intro e he;simp only [List.mem_cons,List.not_mem_nil,or_false] at he;rcases he with rfl;simp),?_⟩|apply x_exec (d:=10) 9;(case hi=>rfl);(case hop=>exact m_alloc rfl);(case hd=>rfl);rintro _ G0 _ ⟨b10,rfl,hG0,rfl⟩;subst G0;refine ⟨(by intro e he;simp only [List.mem_cons,List.not_mem_nil,or_false] at he;rcases he with rfl;simp),?_⟩|fail
       all_goals (first|((apply d_call 5 (hs:=hap6) (μ1:=[]);(case hi=>rfl);(case hr=>kernel_rfl);(case ha=>rfl);(case hp=>exact List.Perm.refl _);(case hd=>rfl);(case hν'=>intro e he;simp only [List.mem_cons,List.not_mem_nil,or_false] at he;rcases he with rfl;simp);rintro _ G6 _ hle6 ⟨rfl,v6,rfl,hm6⟩;obtain ⟨C6,cc6,A6,c6,A6',c6',rfl,hC6,hp6,hss6⟩:=id hm6))|((apply d_exec (d:=9) 5;(case hi=>rfl);(case hr=>kernel_rfl);(case hop=>exact m_alloc rfl);(case hd=>rfl);rintro _ G0 _ ⟨b9,rfl,hG0,rfl⟩;subst G0;refine ⟨(by intro e he;simp only [List.mem_cons,List.not_mem_nil,or_false] at he;rcases he with rfl;simp),?_⟩))|((apply x_exec (d:=9) 5;(case hi=>rfl);(case hr=>kernel_rfl);(case hop=>exact m_alloc rfl);(case hd=>rfl);rintro _ G0 _ ⟨b9,rfl,hG0,rfl⟩;subst G0;refine ⟨(by intro e he;simp only [List.mem_cons,List.not_mem_nil,or_false] at he;rcases he with rfl;simp),?_⟩))|((apply d_exec (d:=10) 5;(case hi=>rfl);(case hr=>kernel_rfl);(case hop=>exact m_alloc rfl);(case hd=>rfl);rintro _ G0 _ ⟨b10,rfl,hG0,rfl⟩;subst G0;refine ⟨(by intro e he;simp only [List.mem_cons,List.not_mem_nil,or_false] at he;rcases he with rfl;simp),?_⟩))|((apply x_exec (d:=10) 5;(case hi=>rfl);(case hr=>kernel_rfl);(case hop=>exact m_alloc rfl);(case hd=>rfl);rintro _ G0 _ ⟨b10,rfl,hG0,rfl⟩;subst G0;refine ⟨(by intro e he;simp only [List.mem_cons,List.not_mem_nil,or_false] at he;rcases he with rfl;simp),?_⟩))|apply d_store 5;(case hi=>rfl);(case hr=>kernel_rfl);(case hL=>infer_instance);(case hp|hx|hc|hsz|h1=>rfl);(case hb=>exact aM);(case hfit=>first|exact Nat.le_of_ble_eq_true rfl|rfl);(case hov=>(first|((repeat (first|with_reducible exact ov_nil|apply ov_cons|apply ov_there));done)|rfl));(case hu=>repeat first|exact Upd.here _ _|apply Upd.there|apply Upd.app);(case hν'=>exact aE)|fail)
       all_goals refine Dt [6,7,8] ?_
       all_goals (first|((apply d_call 11 (hs:=hap6) (μ1:=[]);(case hi=>rfl);(case hr=>kernel_rfl);(case ha=>rfl);(case hp=>exact List.Perm.refl _);(case hd=>rfl);(case hν'=>intro e he;simp only [List.mem_cons,List.not_mem_nil,or_false] at he;rcases he with rfl;simp);rintro _ G6 _ hle6 ⟨rfl,v6,rfl,hm6⟩;obtain ⟨C6,cc6,A6,c6,A6',c6',rfl,hC6,hp6,hss6⟩:=id hm6))|((apply d_exec (d:=9) 11;(case hi=>rfl);(case hr=>kernel_rfl);(case hop=>exact m_alloc rfl);(case hd=>rfl);rintro _ G0 _ ⟨b9,rfl,hG0,rfl⟩;subst G0;refine ⟨(by intro e he;simp only [List.mem_cons,List.not_mem_nil,or_false] at he;rcases he with rfl;simp),?_⟩))|((apply x_exec (d:=9) 11;(case hi=>rfl);(case hr=>kernel_rfl);(case hop=>exact m_alloc rfl);(case hd=>rfl);rintro _ G0 _ ⟨b9,rfl,hG0,rfl⟩;subst G0;refine ⟨(by intro e he;simp only [List.mem_cons,List.not_mem_nil,or_false] at he;rcases he with rfl;simp),?_⟩))|((apply d_exec (d:=10) 11;(case hi=>rfl);(case hr=>kernel_rfl);(case hop=>exact m_alloc rfl);(case hd=>rfl);rintro _ G0 _ ⟨b10,rfl,hG0,rfl⟩;subst G0;refine ⟨(by intro e he;simp only [List.mem_cons,List.not_mem_nil,or_false] at he;rcases he with rfl;simp),?_⟩))|((apply x_exec (d:=10) 11;(case hi=>rfl);(case hr=>kernel_rfl);(case hop=>exact m_alloc rfl);(case hd=>rfl);rintro _ G0 _ ⟨b10,rfl,hG0,rfl⟩;subst G0;refine ⟨(by intro e he;simp only [List.mem_cons,List.not_mem_nil,or_false] at he;rcases he with rfl;simp),?_⟩))|apply d_store 11;(case hi=>rfl);(case hr=>kernel_rfl);(case hL=>infer_instance);(case hp|hx|hc|hsz|h1=>rfl);(case hb=>exact aM);(case hfit=>first|exact Nat.le_of_ble_eq_true rfl|rfl);(case hov=>(first|((repeat (first|with_reducible exact ov_nil|apply ov_cons|apply ov_there));done)|rfl));(case hu=>repeat first|exact Upd.here _ _|apply Upd.there|apply Upd.app);(case hν'=>exact aE)|fail)
       all_goals (first|((apply d_call 12 (hs:=hap6) (μ1:=[]);(case hi=>rfl);(case hr=>kernel_rfl);(case ha=>rfl);(case hp=>exact List.Perm.refl _);(case hd=>rfl);(case hν'=>intro e he;simp only [List.mem_cons,List.not_mem_nil,or_false] at he;rcases he with rfl;simp);rintro _ G6 _ hle6 ⟨rfl,v6,rfl,hm6⟩;obtain ⟨C6,cc6,A6,c6,A6',c6',rfl,hC6,hp6,hss6⟩:=id hm6))|((apply d_exec (d:=9) 12;(case hi=>rfl);(case hr=>kernel_rfl);(case hop=>exact m_alloc rfl);(case hd=>rfl);rintro _ G0 _ ⟨b9,rfl,hG0,rfl⟩;subst G0;refine ⟨(by intro e he;simp only [List.mem_cons,List.not_mem_nil,or_false] at he;rcases he with rfl;simp),?_⟩))|((apply x_exec (d:=9) 12;(case hi=>rfl);(case hr=>kernel_rfl);(case hop=>exact m_alloc rfl);(case hd=>rfl);rintro _ G0 _ ⟨b9,rfl,hG0,rfl⟩;subst G0;refine ⟨(by intro e he;simp only [List.mem_cons,List.not_mem_nil,or_false] at he;rcases he with rfl;simp),?_⟩))|((apply d_exec (d:=10) 12;(case hi=>rfl);(case hr=>kernel_rfl);(case hop=>exact m_alloc rfl);(case hd=>rfl);rintro _ G0 _ ⟨b10,rfl,hG0,rfl⟩;subst G0;refine ⟨(by intro e he;simp only [List.mem_cons,List.not_mem_nil,or_false] at he;rcases he with rfl;simp),?_⟩))|((apply x_exec (d:=10) 12;(case hi=>rfl);(case hr=>kernel_rfl);(case hop=>exact m_alloc rfl);(case hd=>rfl);rintro _ G0 _ ⟨b10,rfl,hG0,rfl⟩;subst G0;refine ⟨(by intro e he;simp only [List.mem_cons,List.not_mem_nil,or_false] at he;rcases he with rfl;simp),?_⟩))|apply d_store 12;(case hi=>rfl);(case hr=>kernel_rfl);(case hL=>infer_instance);(case hp|hx|hc|hsz|h1=>rfl);(case hb=>exact aM);(case hfit=>first|exact Nat.le_of_ble_eq_true rfl|rfl);(case hov=>(first|((repeat (first|with_reducible exact ov_nil|apply ov_cons|apply ov_there));done)|rfl));(case hu=>repeat first|exact Upd.here _ _|apply Upd.there|apply Upd.app);(case hν'=>exact aE)|fail)
       all_goals refine Dd ?_
      rotate_right
      focus
       first|apply x_call 5 (hs:=hap6) (μ1:=[]);(case hi|ha=>rfl);(case hp=>exact List.Perm.refl _);(case hd=>rfl);(case hν'=>intro e he;simp only [List.mem_cons,List.not_mem_nil,or_false] at he;rcases he with rfl;simp);rintro _ G6 _ hle6 ⟨rfl,v6,rfl,hm6⟩;obtain ⟨C6,cc6,A6,c6,A6',c6',rfl,hC6,hp6,hss6⟩:=id hm6|apply d_exec (d:=9) 5;(case hi=>rfl);(case hop=>exact m_alloc rfl);(case hd=>rfl);rintro _ G0 _ ⟨b9,rfl,hG0,rfl⟩;subst G0;refine ⟨(by intro e he;simp only [List.mem_cons,List.not_mem_nil,or_false] at he;rcases he with rfl;simp),?_⟩|apply x_exec (d:=9) 5;(case hi=>rfl);(case hop=>exact m_alloc rfl);(case hd=>rfl);rintro _ G0 _ ⟨b9,rfl,hG0,rfl⟩;subst G0;refine ⟨(by intro e he;simp only [List.mem_cons,List.not_mem_nil,or_false] at he;rcases he with rfl;simp),?_⟩|apply d_exec (d:=10) 5;(case hi=>rfl);(case hop=>exact m_alloc rfl);(case hd=>rfl);rintro _ G0 _ ⟨b10,rfl,hG0,rfl⟩;subst G0;refine ⟨(by intro e he;simp only [List.mem_cons,List.not_mem_nil,or_false] at he;rcases he with rfl;simp),?_⟩|apply x_exec (d:=10) 5;(case hi=>rfl);(case hop=>exact m_alloc rfl);(case hd=>rfl);rintro _ G0 _ ⟨b10,rfl,hG0,rfl⟩;subst G0;refine ⟨(by intro e he;simp only [List.mem_cons,List.not_mem_nil,or_false] at he;rcases he with rfl;simp),?_⟩|fail
       all_goals refine Dt [6,7,8] ?_
       all_goals (first|((apply d_call 9 (hs:=hap6) (μ1:=[]);(case hi=>rfl);(case hr=>kernel_rfl);(case ha=>rfl);(case hp=>exact List.Perm.refl _);(case hd=>rfl);(case hν'=>intro e he;simp only [List.mem_cons,List.not_mem_nil,or_false] at he;rcases he with rfl;simp);rintro _ G6 _ hle6 ⟨rfl,v6,rfl,hm6⟩;obtain ⟨C6,cc6,A6,c6,A6',c6',rfl,hC6,hp6,hss6⟩:=id hm6))|((apply d_exec (d:=9) 9;(case hi=>rfl);(case hr=>kernel_rfl);(case hop=>exact m_alloc rfl);(case hd=>rfl);rintro _ G0 _ ⟨b9,rfl,hG0,rfl⟩;subst G0;refine ⟨(by intro e he;simp only [List.mem_cons,List.not_mem_nil,or_false] at he;rcases he with rfl;simp),?_⟩))|((apply x_exec (d:=9) 9;(case hi=>rfl);(case hr=>kernel_rfl);(case hop=>exact m_alloc rfl);(case hd=>rfl);rintro _ G0 _ ⟨b9,rfl,hG0,rfl⟩;subst G0;refine ⟨(by intro e he;simp only [List.mem_cons,List.not_mem_nil,or_false] at he;rcases he with rfl;simp),?_⟩))|((apply d_exec (d:=10) 9;(case hi=>rfl);(case hr=>kernel_rfl);(case hop=>exact m_alloc rfl);(case hd=>rfl);rintro _ G0 _ ⟨b10,rfl,hG0,rfl⟩;subst G0;refine ⟨(by intro e he;simp only [List.mem_cons,List.not_mem_nil,or_false] at he;rcases he with rfl;simp),?_⟩))|((apply x_exec (d:=10) 9;(case hi=>rfl);(case hr=>kernel_rfl);(case hop=>exact m_alloc rfl);(case hd=>rfl);rintro _ G0 _ ⟨b10,rfl,hG0,rfl⟩;subst G0;refine ⟨(by intro e he;simp only [List.mem_cons,List.not_mem_nil,or_false] at he;rcases he with rfl;simp),?_⟩))|apply d_store 9;(case hi=>rfl);(case hr=>kernel_rfl);(case hL=>infer_instance);(case hp|hx|hc|hsz|h1=>rfl);(case hb=>exact aM);(case hfit=>first|exact Nat.le_of_ble_eq_true rfl|rfl);(case hov=>(first|((repeat (first|with_reducible exact ov_nil|apply ov_cons|apply ov_there));done)|rfl));(case hu=>repeat first|exact Upd.here _ _|apply Upd.there|apply Upd.app);(case hν'=>exact aE)|fail)
       all_goals (first|((apply d_call 11 (hs:=hap6) (μ1:=[]);(case hi=>rfl);(case hr=>kernel_rfl);(case ha=>rfl);(case hp=>exact List.Perm.refl _);(case hd=>rfl);(case hν'=>intro e he;simp only [List.mem_cons,List.not_mem_nil,or_false] at he;rcases he with rfl;simp);rintro _ G6 _ hle6 ⟨rfl,v6,rfl,hm6⟩;obtain ⟨C6,cc6,A6,c6,A6',c6',rfl,hC6,hp6,hss6⟩:=id hm6))|((apply d_exec (d:=9) 11;(case hi=>rfl);(case hr=>kernel_rfl);(case hop=>exact m_alloc rfl);(case hd=>rfl);rintro _ G0 _ ⟨b9,rfl,hG0,rfl⟩;subst G0;refine ⟨(by intro e he;simp only [List.mem_cons,List.not_mem_nil,or_false] at he;rcases he with rfl;simp),?_⟩))|((apply x_exec (d:=9) 11;(case hi=>rfl);(case hr=>kernel_rfl);(case hop=>exact m_alloc rfl);(case hd=>rfl);rintro _ G0 _ ⟨b9,rfl,hG0,rfl⟩;subst G0;refine ⟨(by intro e he;simp only [List.mem_cons,List.not_mem_nil,or_false] at he;rcases he with rfl;simp),?_⟩))|((apply d_exec (d:=10) 11;(case hi=>rfl);(case hr=>kernel_rfl);(case hop=>exact m_alloc rfl);(case hd=>rfl);rintro _ G0 _ ⟨b10,rfl,hG0,rfl⟩;subst G0;refine ⟨(by intro e he;simp only [List.mem_cons,List.not_mem_nil,or_false] at he;rcases he with rfl;simp),?_⟩))|((apply x_exec (d:=10) 11;(case hi=>rfl);(case hr=>kernel_rfl);(case hop=>exact m_alloc rfl);(case hd=>rfl);rintro _ G0 _ ⟨b10,rfl,hG0,rfl⟩;subst G0;refine ⟨(by intro e he;simp only [List.mem_cons,List.not_mem_nil,or_false] at he;rcases he with rfl;simp),?_⟩))|apply d_store 11;(case hi=>rfl);(case hr=>kernel_rfl);(case hL=>infer_instance);(case hp|hx|hc|hsz|h1=>rfl);(case hb=>exact aM);(case hfit=>first|exact Nat.le_of_ble_eq_true rfl|rfl);(case hov=>(first|((repeat (first|with_reducible exact ov_nil|apply ov_cons|apply ov_there));done)|rfl));(case hu=>repeat first|exact Upd.here _ _|apply Upd.there|apply Upd.app);(case hν'=>exact aE)|fail)
       all_goals (first|((apply d_call 12 (hs:=hap6) (μ1:=[]);(case hi=>rfl);(case hr=>kernel_rfl);(case ha=>rfl);(case hp=>exact List.Perm.refl _);(case hd=>rfl);(case hν'=>intro e he;simp only [List.mem_cons,List.not_mem_nil,or_false] at he;rcases he with rfl;simp);rintro _ G6 _ hle6 ⟨rfl,v6,rfl,hm6⟩;obtain ⟨C6,cc6,A6,c6,A6',c6',rfl,hC6,hp6,hss6⟩:=id hm6))|((apply d_exec (d:=9) 12;(case hi=>rfl);(case hr=>kernel_rfl);(case hop=>exact m_alloc rfl);(case hd=>rfl);rintro _ G0 _ ⟨b9,rfl,hG0,rfl⟩;subst G0;refine ⟨(by intro e he;simp only [List.mem_cons,List.not_mem_nil,or_false] at he;rcases he with rfl;simp),?_⟩))|((apply x_exec (d:=9) 12;(case hi=>rfl);(case hr=>kernel_rfl);(case hop=>exact m_alloc rfl);(case hd=>rfl);rintro _ G0 _ ⟨b9,rfl,hG0,rfl⟩;subst G0;refine ⟨(by intro e he;simp only [List.mem_cons,List.not_mem_nil,or_false] at he;rcases he with rfl;simp),?_⟩))|((apply d_exec (d:=10) 12;(case hi=>rfl);(case hr=>kernel_rfl);(case hop=>exact m_alloc rfl);(case hd=>rfl);rintro _ G0 _ ⟨b10,rfl,hG0,rfl⟩;subst G0;refine ⟨(by intro e he;simp only [List.mem_cons,List.not_mem_nil,or_false] at he;rcases he with rfl;simp),?_⟩))|((apply x_exec (d:=10) 12;(case hi=>rfl);(case hr=>kernel_rfl);(case hop=>exact m_alloc rfl);(case hd=>rfl);rintro _ G0 _ ⟨b10,rfl,hG0,rfl⟩;subst G0;refine ⟨(by intro e he;simp only [List.mem_cons,List.not_mem_nil,or_false] at he;rcases he with rfl;simp),?_⟩))|apply d_store 12;(case hi=>rfl);(case hr=>kernel_rfl);(case hL=>infer_instance);(case hp|hx|hc|hsz|h1=>rfl);(case hb=>exact aM);(case hfit=>first|exact Nat.le_of_ble_eq_true rfl|rfl);(case hov=>(first|((repeat (first|with_reducible exact ov_nil|apply ov_cons|apply ov_there));done)|rfl));(case hu=>repeat first|exact Upd.here _ _|apply Upd.there|apply Upd.app);(case hν'=>exact aE)|fail)
       all_goals refine Dd ?_
    rotate_right
    focus
     first|apply x_call 9 (hs:=hap6) (μ1:=[]);(case hi|ha=>rfl);(case hp=>exact List.Perm.refl _);(case hd=>rfl);(case hν'=>intro e he;simp only [List.mem_cons,List.not_mem_nil,or_false] at he;rcases he with rfl;simp);rintro _ G6 _ hle6 ⟨rfl,v6,rfl,hm6⟩;obtain ⟨C6,cc6,A6,c6,A6',c6',rfl,hC6,hp6,hss6⟩:=id hm6|apply d_exec (d:=9) 9;(case hi=>rfl);(case hop=>exact m_alloc rfl);(case hd=>rfl);rintro _ G0 _ ⟨b9,rfl,hG0,rfl⟩;subst G0;refine ⟨(by intro e he;simp only [List.mem_cons,List.not_mem_nil,or_false] at he;rcases he with rfl;simp),?_⟩|apply x_exec (d:=9) 9;(case hi=>rfl);(case hop=>exact m_alloc rfl);(case hd=>rfl);rintro _ G0 _ ⟨b9,rfl,hG0,rfl⟩;subst G0;refine ⟨(by intro e he;simp only [List.mem_cons,List.not_mem_nil,or_false] at he;rcases he with rfl;simp),?_⟩|apply d_exec (d:=10) 9;(case hi=>rfl);(case hop=>exact m_alloc rfl);(case hd=>rfl);rintro _ G0 _ ⟨b10,rfl,hG0,rfl⟩;subst G0;refine ⟨(by intro e he;simp only [List.mem_cons,List.not_mem_nil,or_false] at he;rcases he with rfl;simp),?_⟩|apply x_exec (d:=10) 9;(case hi=>rfl);(case hop=>exact m_alloc rfl);(case hd=>rfl);rintro _ G0 _ ⟨b10,rfl,hG0,rfl⟩;subst G0;refine ⟨(by intro e he;simp only [List.mem_cons,List.not_mem_nil,or_false] at he;rcases he with rfl;simp),?_⟩|fail
     focus
      refine d_fork 5 10 (by kernel_rfl) ?_ ?_
      rotate_right
      focus
       first|apply x_call 10 (hs:=hap6) (μ1:=[]);(case hi|ha=>rfl);(case hp=>exact List.Perm.refl _);(case hd=>rfl);(case hν'=>intro e he;simp only [List.mem_cons,List.not_mem_nil,or_false] at he;rcases he with rfl;simp);rintro _ G6 _ hle6 ⟨rfl,v6,rfl,hm6⟩;obtain ⟨C6,cc6,A6,c6,A6',c6',rfl,hC6,hp6,hss6⟩:=id hm6|apply d_exec (d:=9) 10;(case hi=>rfl);(case hop=>exact m_alloc rfl);(case hd=>rfl);rintro _ G0 _ ⟨b9,rfl,hG0,rfl⟩;subst G0;refine ⟨(by intro e he;simp only [List.mem_cons,List.not_mem_nil,or_false] at he;rcases he with rfl;simp),?_⟩|apply x_exec (d:=9) 10;(case hi=>rfl);(case hop=>exact m_alloc rfl);(case hd=>rfl);rintro _ G0 _ ⟨b9,rfl,hG0,rfl⟩;subst G0;refine ⟨(by intro e he;simp only [List.mem_cons,List.not_mem_nil,or_false] at he;rcases he with rfl;simp),?_⟩|apply d_exec (d:=10) 10;(case hi=>rfl);(case hop=>exact m_alloc rfl);(case hd=>rfl);rintro _ G0 _ ⟨b10,rfl,hG0,rfl⟩;subst G0;refine ⟨(by intro e he;simp only [List.mem_cons,List.not_mem_nil,or_false] at he;rcases he with rfl;simp),?_⟩|apply x_exec (d:=10) 10;(case hi=>rfl);(case hop=>exact m_alloc rfl);(case hd=>rfl);rintro _ G0 _ ⟨b10,rfl,hG0,rfl⟩;subst G0;refine ⟨(by intro e he;simp only [List.mem_cons,List.not_mem_nil,or_false] at he;rcases he with rfl;simp),?_⟩|fail
       all_goals (first|((apply d_call 5 (hs:=hap6) (μ1:=[]);(case hi=>rfl);(case hr=>kernel_rfl);(case ha=>rfl);(case hp=>exact List.Perm.refl _);(case hd=>rfl);(case hν'=>intro e he;simp only [List.mem_cons,List.not_mem_nil,or_false] at he;rcases he with rfl;simp);rintro _ G6 _ hle6 ⟨rfl,v6,rfl,hm6⟩;obtain ⟨C6,cc6,A6,c6,A6',c6',rfl,hC6,hp6,hss6⟩:=id hm6))|((apply d_exec (d:=9) 5;(case hi=>rfl);(case hr=>kernel_rfl);(case hop=>exact m_alloc rfl);(case hd=>rfl);rintro _ G0 _ ⟨b9,rfl,hG0,rfl⟩;subst G0;refine ⟨(by intro e he;simp only [List.mem_cons,List.not_mem_nil,or_false] at he;rcases he with rfl;simp),?_⟩))|((apply x_exec (d:=9) 5;(case hi=>rfl);(case hr=>kernel_rfl);(case hop=>exact m_alloc rfl);(case hd=>rfl);rintro _ G0 _ ⟨b9,rfl,hG0,rfl⟩;subst G0;refine ⟨(by intro e he;simp only [List.mem_cons,List.not_mem_nil,or_false] at he;rcases he with rfl;simp),?_⟩))|((apply d_exec (d:=10) 5;(case hi=>rfl);(case hr=>kernel_rfl);(case hop=>exact m_alloc rfl);(case hd=>rfl);rintro _ G0 _ ⟨b10,rfl,hG0,rfl⟩;subst G0;refine ⟨(by intro e he;simp only [List.mem_cons,List.not_mem_nil,or_false] at he;rcases he with rfl;simp),?_⟩))|((apply x_exec (d:=10) 5;(case hi=>rfl);(case hr=>kernel_rfl);(case hop=>exact m_alloc rfl);(case hd=>rfl);rintro _ G0 _ ⟨b10,rfl,hG0,rfl⟩;subst G0;refine ⟨(by intro e he;simp only [List.mem_cons,List.not_mem_nil,or_false] at he;rcases he with rfl;simp),?_⟩))|apply d_store 5;(case hi=>rfl);(case hr=>kernel_rfl);(case hL=>infer_instance);(case hp|hx|hc|hsz|h1=>rfl);(case hb=>exact aM);(case hfit=>first|exact Nat.le_of_ble_eq_true rfl|rfl);(case hov=>(first|((repeat (first|with_reducible exact ov_nil|apply ov_cons|apply ov_there));done)|rfl));(case hu=>repeat first|exact Upd.here _ _|apply Upd.there|apply Upd.app);(case hν'=>exact aE)|fail)
       all_goals refine Dt [6,7,8] ?_
       all_goals (first|((apply d_call 11 (hs:=hap6) (μ1:=[]);(case hi=>rfl);(case hr=>kernel_rfl);(case ha=>rfl);(case hp=>exact List.Perm.refl _);(case hd=>rfl);(case hν'=>intro e he;simp only [List.mem_cons,List.not_mem_nil,or_false] at he;rcases he with rfl;simp);rintro _ G6 _ hle6 ⟨rfl,v6,rfl,hm6⟩;obtain ⟨C6,cc6,A6,c6,A6',c6',rfl,hC6,hp6,hss6⟩:=id hm6))|((apply d_exec (d:=9) 11;(case hi=>rfl);(case hr=>kernel_rfl);(case hop=>exact m_alloc rfl);(case hd=>rfl);rintro _ G0 _ ⟨b9,rfl,hG0,rfl⟩;subst G0;refine ⟨(by intro e he;simp only [List.mem_cons,List.not_mem_nil,or_false] at he;rcases he with rfl;simp),?_⟩))|((apply x_exec (d:=9) 11;(case hi=>rfl);(case hr=>kernel_rfl);(case hop=>exact m_alloc rfl);(case hd=>rfl);rintro _ G0 _ ⟨b9,rfl,hG0,rfl⟩;subst G0;refine ⟨(by intro e he;simp only [List.mem_cons,List.not_mem_nil,or_false] at he;rcases he with rfl;simp),?_⟩))|((apply d_exec (d:=10) 11;(case hi=>rfl);(case hr=>kernel_rfl);(case hop=>exact m_alloc rfl);(case hd=>rfl);rintro _ G0 _ ⟨b10,rfl,hG0,rfl⟩;subst G0;refine ⟨(by intro e he;simp only [List.mem_cons,List.not_mem_nil,or_false] at he;rcases he with rfl;simp),?_⟩))|((apply x_exec (d:=10) 11;(case hi=>rfl);(case hr=>kernel_rfl);(case hop=>exact m_alloc rfl);(case hd=>rfl);rintro _ G0 _ ⟨b10,rfl,hG0,rfl⟩;subst G0;refine ⟨(by intro e he;simp only [List.mem_cons,List.not_mem_nil,or_false] at he;rcases he with rfl;simp),?_⟩))|apply d_store 11;(case hi=>rfl);(case hr=>kernel_rfl);(case hL=>infer_instance);(case hp|hx|hc|hsz|h1=>rfl);(case hb=>exact aM);(case hfit=>first|exact Nat.le_of_ble_eq_true rfl|rfl);(case hov=>(first|((repeat (first|with_reducible exact ov_nil|apply ov_cons|apply ov_there));done)|rfl));(case hu=>repeat first|exact Upd.here _ _|apply Upd.there|apply Upd.app);(case hν'=>exact aE)|fail)
       all_goals (first|((apply d_call 12 (hs:=hap6) (μ1:=[]);(case hi=>rfl);(case hr=>kernel_rfl);(case ha=>rfl);(case hp=>exact List.Perm.refl _);(case hd=>rfl);(case hν'=>intro e he;simp only [List.mem_cons,List.not_mem_nil,or_false] at he;rcases he with rfl;simp);rintro _ G6 _ hle6 ⟨rfl,v6,rfl,hm6⟩;obtain ⟨C6,cc6,A6,c6,A6',c6',rfl,hC6,hp6,hss6⟩:=id hm6))|((apply d_exec (d:=9) 12;(case hi=>rfl);(case hr=>kernel_rfl);(case hop=>exact m_alloc rfl);(case hd=>rfl);rintro _ G0 _ ⟨b9,rfl,hG0,rfl⟩;subst G0;refine ⟨(by intro e he;simp only [List.mem_cons,List.not_mem_nil,or_false] at he;rcases he with rfl;simp),?_⟩))|((apply x_exec (d:=9) 12;(case hi=>rfl);(case hr=>kernel_rfl);(case hop=>exact m_alloc rfl);(case hd=>rfl);rintro _ G0 _ ⟨b9,rfl,hG0,rfl⟩;subst G0;refine ⟨(by intro e he;simp only [List.mem_cons,List.not_mem_nil,or_false] at he;rcases he with rfl;simp),?_⟩))|((apply d_exec (d:=10) 12;(case hi=>rfl);(case hr=>kernel_rfl);(case hop=>exact m_alloc rfl);(case hd=>rfl);rintro _ G0 _ ⟨b10,rfl,hG0,rfl⟩;subst G0;refine ⟨(by intro e he;simp only [List.mem_cons,List.not_mem_nil,or_false] at he;rcases he with rfl;simp),?_⟩))|((apply x_exec (d:=10) 12;(case hi=>rfl);(case hr=>kernel_rfl);(case hop=>exact m_alloc rfl);(case hd=>rfl);rintro _ G0 _ ⟨b10,rfl,hG0,rfl⟩;subst G0;refine ⟨(by intro e he;simp only [List.mem_cons,List.not_mem_nil,or_false] at he;rcases he with rfl;simp),?_⟩))|apply d_store 12;(case hi=>rfl);(case hr=>kernel_rfl);(case hL=>infer_instance);(case hp|hx|hc|hsz|h1=>rfl);(case hb=>exact aM);(case hfit=>first|exact Nat.le_of_ble_eq_true rfl|rfl);(case hov=>(first|((repeat (first|with_reducible exact ov_nil|apply ov_cons|apply ov_there));done)|rfl));(case hu=>repeat first|exact Upd.here _ _|apply Upd.there|apply Upd.app);(case hν'=>exact aE)|fail)
       all_goals refine Dd ?_
      rotate_right
      focus
       first|apply x_call 5 (hs:=hap6) (μ1:=[]);(case hi|ha=>rfl);(case hp=>exact List.Perm.refl _);(case hd=>rfl);(case hν'=>intro e he;simp only [List.mem_cons,List.not_mem_nil,or_false] at he;rcases he with rfl;simp);rintro _ G6 _ hle6 ⟨rfl,v6,rfl,hm6⟩;obtain ⟨C6,cc6,A6,c6,A6',c6',rfl,hC6,hp6,hss6⟩:=id hm6|apply d_exec (d:=9) 5;(case hi=>rfl);(case hop=>exact m_alloc rfl);(case hd=>rfl);rintro _ G0 _ ⟨b9,rfl,hG0,rfl⟩;subst G0;refine ⟨(by intro e he;simp only [List.mem_cons,List.not_mem_nil,or_false] at he;rcases he with rfl;simp),?_⟩|apply x_exec (d:=9) 5;(case hi=>rfl);(case hop=>exact m_alloc rfl);(case hd=>rfl);rintro _ G0 _ ⟨b9,rfl,hG0,rfl⟩;subst G0;refine ⟨(by intro e he;simp only [List.mem_cons,List.not_mem_nil,or_false] at he;rcases he with rfl;simp),?_⟩|apply d_exec (d:=10) 5;(case hi=>rfl);(case hop=>exact m_alloc rfl);(case hd=>rfl);rintro _ G0 _ ⟨b10,rfl,hG0,rfl⟩;subst G0;refine ⟨(by intro e he;simp only [List.mem_cons,List.not_mem_nil,or_false] at he;rcases he with rfl;simp),?_⟩|apply x_exec (d:=10) 5;(case hi=>rfl);(case hop=>exact m_alloc rfl);(case hd=>rfl);rintro _ G0 _ ⟨b10,rfl,hG0,rfl⟩;subst G0;refine ⟨(by intro e he;simp only [List.mem_cons,List.not_mem_nil,or_false] at he;rcases he with rfl;simp),?_⟩|fail
       all_goals refine Dt [6,7,8] ?_
       all_goals (first|((apply d_call 10 (hs:=hap6) (μ1:=[]);(case hi=>rfl);(case hr=>kernel_rfl);(case ha=>rfl);(case hp=>exact List.Perm.refl _);(case hd=>rfl);(case hν'=>intro e he;simp only [List.mem_cons,List.not_mem_nil,or_false] at he;rcases he with rfl;simp);rintro _ G6 _ hle6 ⟨rfl,v6,rfl,hm6⟩;obtain ⟨C6,cc6,A6,c6,A6',c6',rfl,hC6,hp6,hss6⟩:=id hm6))|((apply d_exec (d:=9) 10;(case hi=>rfl);(case hr=>kernel_rfl);(case hop=>exact m_alloc rfl);(case hd=>rfl);rintro _ G0 _ ⟨b9,rfl,hG0,rfl⟩;subst G0;refine ⟨(by intro e he;simp only [List.mem_cons,List.not_mem_nil,or_false] at he;rcases he with rfl;simp),?_⟩))|((apply x_exec (d:=9) 10;(case hi=>rfl);(case hr=>kernel_rfl);(case hop=>exact m_alloc rfl);(case hd=>rfl);rintro _ G0 _ ⟨b9,rfl,hG0,rfl⟩;subst G0;refine ⟨(by intro e he;simp only [List.mem_cons,List.not_mem_nil,or_false] at he;rcases he with rfl;simp),?_⟩))|((apply d_exec (d:=10) 10;(case hi=>rfl);(case hr=>kernel_rfl);(case hop=>exact m_alloc rfl);(case hd=>rfl);rintro _ G0 _ ⟨b10,rfl,hG0,rfl⟩;subst G0;refine ⟨(by intro e he;simp only [List.mem_cons,List.not_mem_nil,or_false] at he;rcases he with rfl;simp),?_⟩))|((apply x_exec (d:=10) 10;(case hi=>rfl);(case hr=>kernel_rfl);(case hop=>exact m_alloc rfl);(case hd=>rfl);rintro _ G0 _ ⟨b10,rfl,hG0,rfl⟩;subst G0;refine ⟨(by intro e he;simp only [List.mem_cons,List.not_mem_nil,or_false] at he;rcases he with rfl;simp),?_⟩))|apply d_store 10;(case hi=>rfl);(case hr=>kernel_rfl);(case hL=>infer_instance);(case hp|hx|hc|hsz|h1=>rfl);(case hb=>exact aM);(case hfit=>first|exact Nat.le_of_ble_eq_true rfl|rfl);(case hov=>(first|((repeat (first|with_reducible exact ov_nil|apply ov_cons|apply ov_there));done)|rfl));(case hu=>repeat first|exact Upd.here _ _|apply Upd.there|apply Upd.app);(case hν'=>exact aE)|fail)
       all_goals (first|((apply d_call 11 (hs:=hap6) (μ1:=[]);(case hi=>rfl);(case hr=>kernel_rfl);(case ha=>rfl);(case hp=>exact List.Perm.refl _);(case hd=>rfl);(case hν'=>intro e he;simp only [List.mem_cons,List.not_mem_nil,or_false] at he;rcases he with rfl;simp);rintro _ G6 _ hle6 ⟨rfl,v6,rfl,hm6⟩;obtain ⟨C6,cc6,A6,c6,A6',c6',rfl,hC6,hp6,hss6⟩:=id hm6))|((apply d_exec (d:=9) 11;(case hi=>rfl);(case hr=>kernel_rfl);(case hop=>exact m_alloc rfl);(case hd=>rfl);rintro _ G0 _ ⟨b9,rfl,hG0,rfl⟩;subst G0;refine ⟨(by intro e he;simp only [List.mem_cons,List.not_mem_nil,or_false] at he;rcases he with rfl;simp),?_⟩))|((apply x_exec (d:=9) 11;(case hi=>rfl);(case hr=>kernel_rfl);(case hop=>exact m_alloc rfl);(case hd=>rfl);rintro _ G0 _ ⟨b9,rfl,hG0,rfl⟩;subst G0;refine ⟨(by intro e he;simp only [List.mem_cons,List.not_mem_nil,or_false] at he;rcases he with rfl;simp),?_⟩))|((apply d_exec (d:=10) 11;(case hi=>rfl);(case hr=>kernel_rfl);(case hop=>exact m_alloc rfl);(case hd=>rfl);rintro _ G0 _ ⟨b10,rfl,hG0,rfl⟩;subst G0;refine ⟨(by intro e he;simp only [List.mem_cons,List.not_mem_nil,or_false] at he;rcases he with rfl;simp),?_⟩))|((apply x_exec (d:=10) 11;(case hi=>rfl);(case hr=>kernel_rfl);(case hop=>exact m_alloc rfl);(case hd=>rfl);rintro _ G0 _ ⟨b10,rfl,hG0,rfl⟩;subst G0;refine ⟨(by intro e he;simp only [List.mem_cons,List.not_mem_nil,or_false] at he;rcases he with rfl;simp),?_⟩))|apply d_store 11;(case hi=>rfl);(case hr=>kernel_rfl);(case hL=>infer_instance);(case hp|hx|hc|hsz|h1=>rfl);(case hb=>exact aM);(case hfit=>first|exact Nat.le_of_ble_eq_true rfl|rfl);(case hov=>(first|((repeat (first|with_reducible exact ov_nil|apply ov_cons|apply ov_there));done)|rfl));(case hu=>repeat first|exact Upd.here _ _|apply Upd.there|apply Upd.app);(case hν'=>exact aE)|fail)
       all_goals (first|((apply d_call 12 (hs:=hap6) (μ1:=[]);(case hi=>rfl);(case hr=>kernel_rfl);(case ha=>rfl);(case hp=>exact List.Perm.refl _);(case hd=>rfl);(case hν'=>intro e he;simp only [List.mem_cons,List.not_mem_nil,or_false] at he;rcases he with rfl;simp);rintro _ G6 _ hle6 ⟨rfl,v6,rfl,hm6⟩;obtain ⟨C6,cc6,A6,c6,A6',c6',rfl,hC6,hp6,hss6⟩:=id hm6))|((apply d_exec (d:=9) 12;(case hi=>rfl);(case hr=>kernel_rfl);(case hop=>exact m_alloc rfl);(case hd=>rfl);rintro _ G0 _ ⟨b9,rfl,hG0,rfl⟩;subst G0;refine ⟨(by intro e he;simp only [List.mem_cons,List.not_mem_nil,or_false] at he;rcases he with rfl;simp),?_⟩))|((apply x_exec (d:=9) 12;(case hi=>rfl);(case hr=>kernel_rfl);(case hop=>exact m_alloc rfl);(case hd=>rfl);rintro _ G0 _ ⟨b9,rfl,hG0,rfl⟩;subst G0;refine ⟨(by intro e he;simp only [List.mem_cons,List.not_mem_nil,or_false] at he;rcases he with rfl;simp),?_⟩))|((apply d_exec (d:=10) 12;(case hi=>rfl);(case hr=>kernel_rfl);(case hop=>exact m_alloc rfl);(case hd=>rfl);rintro _ G0 _ ⟨b10,rfl,hG0,rfl⟩;subst G0;refine ⟨(by intro e he;simp only [List.mem_cons,List.not_mem_nil,or_false] at he;rcases he with rfl;simp),?_⟩))|((apply x_exec (d:=10) 12;(case hi=>rfl);(case hr=>kernel_rfl);(case hop=>exact m_alloc rfl);(case hd=>rfl);rintro _ G0 _ ⟨b10,rfl,hG0,rfl⟩;subst G0;refine ⟨(by intro e he;simp only [List.mem_cons,List.not_mem_nil,or_false] at he;rcases he with rfl;simp),?_⟩))|apply d_store 12;(case hi=>rfl);(case hr=>kernel_rfl);(case hL=>infer_instance);(case hp|hx|hc|hsz|h1=>rfl);(case hb=>exact aM);(case hfit=>first|exact Nat.le_of_ble_eq_true rfl|rfl);(case hov=>(first|((repeat (first|with_reducible exact ov_nil|apply ov_cons|apply ov_there));done)|rfl));(case hu=>repeat first|exact Upd.here _ _|apply Upd.there|apply Upd.app);(case hν'=>exact aE)|fail)
       all_goals refine Dd ?_
    rotate_right
    focus
     first|apply x_call 5 (hs:=hap6) (μ1:=[]);(case hi|ha=>rfl);(case hp=>exact List.Perm.refl _);(case hd=>rfl);(case hν'=>intro e he;simp only [List.mem_cons,List.not_mem_nil,or_false] at he;rcases he with rfl;simp);rintro _ G6 _ hle6 ⟨rfl,v6,rfl,hm6⟩;obtain ⟨C6,cc6,A6,c6,A6',c6',rfl,hC6,hp6,hss6⟩:=id hm6|apply d_exec (d:=9) 5;(case hi=>rfl);(case hop=>exact m_alloc rfl);(case hd=>rfl);rintro _ G0 _ ⟨b9,rfl,hG0,rfl⟩;subst G0;refine ⟨(by intro e he;simp only [List.mem_cons,List.not_mem_nil,or_false] at he;rcases he with rfl;simp),?_⟩|apply x_exec (d:=9) 5;(case hi=>rfl);(case hop=>exact m_alloc rfl);(case hd=>rfl);rintro _ G0 _ ⟨b9,rfl,hG0,rfl⟩;subst G0;refine ⟨(by intro e he;simp only [List.mem_cons,List.not_mem_nil,or_false] at he;rcases he with rfl;simp),?_⟩|apply d_exec (d:=10) 5;(case hi=>rfl);(case hop=>exact m_alloc rfl);(case hd=>rfl);rintro _ G0 _ ⟨b10,rfl,hG0,rfl⟩;subst G0;refine ⟨(by intro e he;simp only [List.mem_cons,List.not_mem_nil,or_false] at he;rcases he with rfl;simp),?_⟩|apply x_exec (d:=10) 5;(case hi=>rfl);(case hop=>exact m_alloc rfl);(case hd=>rfl);rintro _ G0 _ ⟨b10,rfl,hG0,rfl⟩;subst G0;refine ⟨(by intro e he;simp only [List.mem_cons,List.not_mem_nil,or_false] at he;rcases he with rfl;simp),?_⟩|fail
     all_goals refine Dt [6,7,8] ?_
     focus
      refine d_fork 9 10 (by kernel_rfl) ?_ ?_
      rotate_right
      focus
       first|apply x_call 10 (hs:=hap6) (μ1:=[]);(case hi|ha=>rfl);(case hp=>exact List.Perm.refl _);(case hd=>rfl);(case hν'=>intro e he;simp only [List.mem_cons,List.not_mem_nil,or_false] at he;rcases he with rfl;simp);rintro _ G6 _ hle6 ⟨rfl,v6,rfl,hm6⟩;obtain ⟨C6,cc6,A6,c6,A6',c6',rfl,hC6,hp6,hss6⟩:=id hm6|apply d_exec (d:=9) 10;(case hi=>rfl);(case hop=>exact m_alloc rfl);(case hd=>rfl);rintro _ G0 _ ⟨b9,rfl,hG0,rfl⟩;subst G0;refine ⟨(by intro e he;simp only [List.mem_cons,List.not_mem_nil,or_false] at he;rcases he with rfl;simp),?_⟩|apply x_exec (d:=9) 10;(case hi=>rfl);(case hop=>exact m_alloc rfl);(case hd=>rfl);rintro _ G0 _ ⟨b9,rfl,hG0,rfl⟩;subst G0;refine ⟨(by intro e he;simp only [List.mem_cons,List.not_mem_nil,or_false] at he;rcases he with rfl;simp),?_⟩|apply d_exec (d:=10) 10;(case hi=>rfl);(case hop=>exact m_alloc rfl);(case hd=>rfl);rintro _ G0 _ ⟨b10,rfl,hG0,rfl⟩;subst G0;refine ⟨(by intro e he;simp only [List.mem_cons,List.not_mem_nil,or_false] at he;rcases he with rfl;simp),?_⟩|apply x_exec (d:=10) 10;(case hi=>rfl);(case hop=>exact m_alloc rfl);(case hd=>rfl);rintro _ G0 _ ⟨b10,rfl,hG0,rfl⟩;subst G0;refine ⟨(by intro e he;simp only [List.mem_cons,List.not_mem_nil,or_false] at he;rcases he with rfl;simp),?_⟩|fail
       all_goals (first|((apply d_call 9 (hs:=hap6) (μ1:=[]);(case hi=>rfl);(case hr=>kernel_rfl);(case ha=>rfl);(case hp=>exact List.Perm.refl _);(case hd=>rfl);(case hν'=>intro e he;simp only [List.mem_cons,List.not_mem_nil,or_false] at he;rcases he with rfl;simp);rintro _ G6 _ hle6 ⟨rfl,v6,rfl,hm6⟩;obtain ⟨C6,cc6,A6,c6,A6',c6',rfl,hC6,hp6,hss6⟩:=id hm6))|((apply d_exec (d:=9) 9;(case hi=>rfl);(case hr=>kernel_rfl);(case hop=>exact m_alloc rfl);(case hd=>rfl);rintro _ G0 _ ⟨b9,rfl,hG0,rfl⟩;subst G0;refine ⟨(by intro e he;simp only [List.mem_cons,List.not_mem_nil,or_false] at he;rcases he with rfl;simp),?_⟩))|((apply x_exec (d:=9) 9;(case hi=>rfl);(case hr=>kernel_rfl);(case hop=>exact m_alloc rfl);(case hd=>rfl);rintro _ G0 _ ⟨b9,rfl,hG0,rfl⟩;subst G0;refine ⟨(by intro e he;simp only [List.mem_cons,List.not_mem_nil,or_false] at he;rcases he with rfl;simp),?_⟩))|((apply d_exec (d:=10) 9;(case hi=>rfl);(case hr=>kernel_rfl);(case hop=>exact m_alloc rfl);(case hd=>rfl);rintro _ G0 _ ⟨b10,rfl,hG0,rfl⟩;subst G0;refine ⟨(by intro e he;simp only [List.mem_cons,List.not_mem_nil,or_false] at he;rcases he with rfl;simp),?_⟩))|((apply x_exec (d:=10) 9;(case hi=>rfl);(case hr=>kernel_rfl);(case hop=>exact m_alloc rfl);(case hd=>rfl);rintro _ G0 _ ⟨b10,rfl,hG0,rfl⟩;subst G0;refine ⟨(by intro e he;simp only [List.mem_cons,List.not_mem_nil,or_false] at he;rcases he with rfl;simp),?_⟩))|apply d_store 9;(case hi=>rfl);(case hr=>kernel_rfl);(case hL=>infer_instance);(case hp|hx|hc|hsz|h1=>rfl);(case hb=>exact aM);(case hfit=>first|exact Nat.le_of_ble_eq_true rfl|rfl);(case hov=>(first|((repeat (first|with_reducible exact ov_nil|apply ov_cons|apply ov_there));done)|rfl));(case hu=>repeat first|exact Upd.here _ _|apply Upd.there|apply Upd.app);(case hν'=>exact aE)|fail)
       all_goals (first|((apply d_call 11 (hs:=hap6) (μ1:=[]);(case hi=>rfl);(case hr=>kernel_rfl);(case ha=>rfl);(case hp=>exact List.Perm.refl _);(case hd=>rfl);(case hν'=>intro e he;simp only [List.mem_cons,List.not_mem_nil,or_false] at he;rcases he with rfl;simp);rintro _ G6 _ hle6 ⟨rfl,v6,rfl,hm6⟩;obtain ⟨C6,cc6,A6,c6,A6',c6',rfl,hC6,hp6,hss6⟩:=id hm6))|((apply d_exec (d:=9) 11;(case hi=>rfl);(case hr=>kernel_rfl);(case hop=>exact m_alloc rfl);(case hd=>rfl);rintro _ G0 _ ⟨b9,rfl,hG0,rfl⟩;subst G0;refine ⟨(by intro e he;simp only [List.mem_cons,List.not_mem_nil,or_false] at he;rcases he with rfl;simp),?_⟩))|((apply x_exec (d:=9) 11;(case hi=>rfl);(case hr=>kernel_rfl);(case hop=>exact m_alloc rfl);(case hd=>rfl);rintro _ G0 _ ⟨b9,rfl,hG0,rfl⟩;subst G0;refine ⟨(by intro e he;simp only [List.mem_cons,List.not_mem_nil,or_false] at he;rcases he with rfl;simp),?_⟩))|((apply d_exec (d:=10) 11;(case hi=>rfl);(case hr=>kernel_rfl);(case hop=>exact m_alloc rfl);(case hd=>rfl);rintro _ G0 _ ⟨b10,rfl,hG0,rfl⟩;subst G0;refine ⟨(by intro e he;simp only [List.mem_cons,List.not_mem_nil,or_false] at he;rcases he with rfl;simp),?_⟩))|((apply x_exec (d:=10) 11;(case hi=>rfl);(case hr=>kernel_rfl);(case hop=>exact m_alloc rfl);(case hd=>rfl);rintro _ G0 _ ⟨b10,rfl,hG0,rfl⟩;subst G0;refine ⟨(by intro e he;simp only [List.mem_cons,List.not_mem_nil,or_false] at he;rcases he with rfl;simp),?_⟩))|apply d_store 11;(case hi=>rfl);(case hr=>kernel_rfl);(case hL=>infer_instance);(case hp|hx|hc|hsz|h1=>rfl);(case hb=>exact aM);(case hfit=>first|exact Nat.le_of_ble_eq_true rfl|rfl);(case hov=>(first|((repeat (first|with_reducible exact ov_nil|apply ov_cons|apply ov_there));done)|rfl));(case hu=>repeat first|exact Upd.here _ _|apply Upd.there|apply Upd.app);(case hν'=>exact aE)|fail)
       all_goals (first|((apply d_call 12 (hs:=hap6) (μ1:=[]);(case hi=>rfl);(case hr=>kernel_rfl);(case ha=>rfl);(case hp=>exact List.Perm.refl _);(case hd=>rfl);(case hν'=>intro e he;simp only [List.mem_cons,List.not_mem_nil,or_false] at he;rcases he with rfl;simp);rintro _ G6 _ hle6 ⟨rfl,v6,rfl,hm6⟩;obtain ⟨C6,cc6,A6,c6,A6',c6',rfl,hC6,hp6,hss6⟩:=id hm6))|((apply d_exec (d:=9) 12;(case hi=>rfl);(case hr=>kernel_rfl);(case hop=>exact m_alloc rfl);(case hd=>rfl);rintro _ G0 _ ⟨b9,rfl,hG0,rfl⟩;subst G0;refine ⟨(by intro e he;simp only [List.mem_cons,List.not_mem_nil,or_false] at he;rcases he with rfl;simp),?_⟩))|((apply x_exec (d:=9) 12;(case hi=>rfl);(case hr=>kernel_rfl);(case hop=>exact m_alloc rfl);(case hd=>rfl);rintro _ G0 _ ⟨b9,rfl,hG0,rfl⟩;subst G0;refine ⟨(by intro e he;simp only [List.mem_cons,List.not_mem_nil,or_false] at he;rcases he with rfl;simp),?_⟩))|((apply d_exec (d:=10) 12;(case hi=>rfl);(case hr=>kernel_rfl);(case hop=>exact m_alloc rfl);(case hd=>rfl);rintro _ G0 _ ⟨b10,rfl,hG0,rfl⟩;subst G0;refine ⟨(by intro e he;simp only [List.mem_cons,List.not_mem_nil,or_false] at he;rcases he with rfl;simp),?_⟩))|((apply x_exec (d:=10) 12;(case hi=>rfl);(case hr=>kernel_rfl);(case hop=>exact m_alloc rfl);(case hd=>rfl);rintro _ G0 _ ⟨b10,rfl,hG0,rfl⟩;subst G0;refine ⟨(by intro e he;simp only [List.mem_cons,List.not_mem_nil,or_false] at he;rcases he with rfl;simp),?_⟩))|apply d_store 12;(case hi=>rfl);(case hr=>kernel_rfl);(case hL=>infer_instance);(case hp|hx|hc|hsz|h1=>rfl);(case hb=>exact aM);(case hfit=>first|exact Nat.le_of_ble_eq_true rfl|rfl);(case hov=>(first|((repeat (first|with_reducible exact ov_nil|apply ov_cons|apply ov_there));done)|rfl));(case hu=>repeat first|exact Upd.here _ _|apply Upd.there|apply Upd.app);(case hν'=>exact aE)|fail)
       all_goals refine Dd ?_
      rotate_right
      focus
       first|apply x_call 9 (hs:=hap6) (μ1:=[]);(case hi|ha=>rfl);(case hp=>exact List.Perm.refl _);(case hd=>rfl);(case hν'=>intro e he;simp only [List.mem_cons,List.not_mem_nil,or_false] at he;rcases he with rfl;simp);rintro _ G6 _ hle6 ⟨rfl,v6,rfl,hm6⟩;obtain ⟨C6,cc6,A6,c6,A6',c6',rfl,hC6,hp6,hss6⟩:=id hm6|apply d_exec (d:=9) 9;(case hi=>rfl);(case hop=>exact m_alloc rfl);(case hd=>rfl);rintro _ G0 _ ⟨b9,rfl,hG0,rfl⟩;subst G0;refine ⟨(by intro e he;simp only [List.mem_cons,List.not_mem_nil,or_false] at he;rcases he with rfl;simp),?_⟩|apply x_exec (d:=9) 9;(case hi=>rfl);(case hop=>exact m_alloc rfl);(case hd=>rfl);rintro _ G0 _ ⟨b9,rfl,hG0,rfl⟩;subst G0;refine ⟨(by intro e he;simp only [List.mem_cons,List.not_mem_nil,or_false] at he;rcases he with rfl;simp),?_⟩|apply d_exec (d:=10) 9;(case hi=>rfl);(case hop=>exact m_alloc rfl);(case hd=>rfl);rintro _ G0 _ ⟨b10,rfl,hG0,rfl⟩;subst G0;refine ⟨(by intro e he;simp only [List.mem_cons,List.not_mem_nil,or_false] at he;rcases he with rfl;simp),?_⟩|apply x_exec (d:=10) 9;(case hi=>rfl);(case hop=>exact m_alloc rfl);(case hd=>rfl);rintro _ G0 _ ⟨b10,rfl,hG0,rfl⟩;subst G0;refine ⟨(by intro e he;simp only [List.mem_cons,List.not_mem_nil,or_false] at he;rcases he with rfl;simp),?_⟩|fail
       all_goals (first|((apply d_call 10 (hs:=hap6) (μ1:=[]);(case hi=>rfl);(case hr=>kernel_rfl);(case ha=>rfl);(case hp=>exact List.Perm.refl _);(case hd=>rfl);(case hν'=>intro e he;simp only [List.mem_cons,List.not_mem_nil,or_false] at he;rcases he with rfl;simp);rintro _ G6 _ hle6 ⟨rfl,v6,rfl,hm6⟩;obtain ⟨C6,cc6,A6,c6,A6',c6',rfl,hC6,hp6,hss6⟩:=id hm6))|((apply d_exec (d:=9) 10;(case hi=>rfl);(case hr=>kernel_rfl);(case hop=>exact m_alloc rfl);(case hd=>rfl);rintro _ G0 _ ⟨b9,rfl,hG0,rfl⟩;subst G0;refine ⟨(by intro e he;simp only [List.mem_cons,List.not_mem_nil,or_false] at he;rcases he with rfl;simp),?_⟩))|((apply x_exec (d:=9) 10;(case hi=>rfl);(case hr=>kernel_rfl);(case hop=>exact m_alloc rfl);(case hd=>rfl);rintro _ G0 _ ⟨b9,rfl,hG0,rfl⟩;subst G0;refine ⟨(by intro e he;simp only [List.mem_cons,List.not_mem_nil,or_false] at he;rcases he with rfl;simp),?_⟩))|((apply d_exec (d:=10) 10;(case hi=>rfl);(case hr=>kernel_rfl);(case hop=>exact m_alloc rfl);(case hd=>rfl);rintro _ G0 _ ⟨b10,rfl,hG0,rfl⟩;subst G0;refine ⟨(by intro e he;simp only [List.mem_cons,List.not_mem_nil,or_false] at he;rcases he with rfl;simp),?_⟩))|((apply x_exec (d:=10) 10;(case hi=>rfl);(case hr=>kernel_rfl);(case hop=>exact m_alloc rfl);(case hd=>rfl);rintro _ G0 _ ⟨b10,rfl,hG0,rfl⟩;subst G0;refine ⟨(by intro e he;simp only [List.mem_cons,List.not_mem_nil,or_false] at he;rcases he with rfl;simp),?_⟩))|apply d_store 10;(case hi=>rfl);(case hr=>kernel_rfl);(case hL=>infer_instance);(case hp|hx|hc|hsz|h1=>rfl);(case hb=>exact aM);(case hfit=>first|exact Nat.le_of_ble_eq_true rfl|rfl);(case hov=>(first|((repeat (first|with_reducible exact ov_nil|apply ov_cons|apply ov_there));done)|rfl));(case hu=>repeat first|exact Upd.here _ _|apply Upd.there|apply Upd.app);(case hν'=>exact aE)|fail)
       all_goals (first|((apply d_call 11 (hs:=hap6) (μ1:=[]);(case hi=>rfl);(case hr=>kernel_rfl);(case ha=>rfl);(case hp=>exact List.Perm.refl _);(case hd=>rfl);(case hν'=>intro e he;simp only [List.mem_cons,List.not_mem_nil,or_false] at he;rcases he with rfl;simp);rintro _ G6 _ hle6 ⟨rfl,v6,rfl,hm6⟩;obtain ⟨C6,cc6,A6,c6,A6',c6',rfl,hC6,hp6,hss6⟩:=id hm6))|((apply d_exec (d:=9) 11;(case hi=>rfl);(case hr=>kernel_rfl);(case hop=>exact m_alloc rfl);(case hd=>rfl);rintro _ G0 _ ⟨b9,rfl,hG0,rfl⟩;subst G0;refine ⟨(by intro e he;simp only [List.mem_cons,List.not_mem_nil,or_false] at he;rcases he with rfl;simp),?_⟩))|((apply x_exec (d:=9) 11;(case hi=>rfl);(case hr=>kernel_rfl);(case hop=>exact m_alloc rfl);(case hd=>rfl);rintro _ G0 _ ⟨b9,rfl,hG0,rfl⟩;subst G0;refine ⟨(by intro e he;simp only [List.mem_cons,List.not_mem_nil,or_false] at he;rcases he with rfl;simp),?_⟩))|((apply d_exec (d:=10) 11;(case hi=>rfl);(case hr=>kernel_rfl);(case hop=>exact m_alloc rfl);(case hd=>rfl);rintro _ G0 _ ⟨b10,rfl,hG0,rfl⟩;subst G0;refine ⟨(by intro e he;simp only [List.mem_cons,List.not_mem_nil,or_false] at he;rcases he with rfl;simp),?_⟩))|((apply x_exec (d:=10) 11;(case hi=>rfl);(case hr=>kernel_rfl);(case hop=>exact m_alloc rfl);(case hd=>rfl);rintro _ G0 _ ⟨b10,rfl,hG0,rfl⟩;subst G0;refine ⟨(by intro e he;simp only [List.mem_cons,List.not_mem_nil,or_false] at he;rcases he with rfl;simp),?_⟩))|apply d_store 11;(case hi=>rfl);(case hr=>kernel_rfl);(case hL=>infer_instance);(case hp|hx|hc|hsz|h1=>rfl);(case hb=>exact aM);(case hfit=>first|exact Nat.le_of_ble_eq_true rfl|rfl);(case hov=>(first|((repeat (first|with_reducible exact ov_nil|apply ov_cons|apply ov_there));done)|rfl));(case hu=>repeat first|exact Upd.here _ _|apply Upd.there|apply Upd.app);(case hν'=>exact aE)|fail)
       all_goals (first|((apply d_call 12 (hs:=hap6) (μ1:=[]);(case hi=>rfl);(case hr=>kernel_rfl);(case ha=>rfl);(case hp=>exact List.Perm.refl _);(case hd=>rfl);(case hν'=>intro e he;simp only [List.mem_cons,List.not_mem_nil,or_false] at he;rcases he with rfl;simp);rintro _ G6 _ hle6 ⟨rfl,v6,rfl,hm6⟩;obtain ⟨C6,cc6,A6,c6,A6',c6',rfl,hC6,hp6,hss6⟩:=id hm6))|((apply d_exec (d:=9) 12;(case hi=>rfl);(case hr=>kernel_rfl);(case hop=>exact m_alloc rfl);(case hd=>rfl);rintro _ G0 _ ⟨b9,rfl,hG0,rfl⟩;subst G0;refine ⟨(by intro e he;simp only [List.mem_cons,List.not_mem_nil,or_false] at he;rcases he with rfl;simp),?_⟩))|((apply x_exec (d:=9) 12;(case hi=>rfl);(case hr=>kernel_rfl);(case hop=>exact m_alloc rfl);(case hd=>rfl);rintro _ G0 _ ⟨b9,rfl,hG0,rfl⟩;subst G0;refine ⟨(by intro e he;simp only [List.mem_cons,List.not_mem_nil,or_false] at he;rcases he with rfl;simp),?_⟩))|((apply d_exec (d:=10) 12;(case hi=>rfl);(case hr=>kernel_rfl);(case hop=>exact m_alloc rfl);(case hd=>rfl);rintro _ G0 _ ⟨b10,rfl,hG0,rfl⟩;subst G0;refine ⟨(by intro e he;simp only [List.mem_cons,List.not_mem_nil,or_false] at he;rcases he with rfl;simp),?_⟩))|((apply x_exec (d:=10) 12;(case hi=>rfl);(case hr=>kernel_rfl);(case hop=>exact m_alloc rfl);(case hd=>rfl);rintro _ G0 _ ⟨b10,rfl,hG0,rfl⟩;subst G0;refine ⟨(by intro e he;simp only [List.mem_cons,List.not_mem_nil,or_false] at he;rcases he with rfl;simp),?_⟩))|apply d_store 12;(case hi=>rfl);(case hr=>kernel_rfl);(case hL=>infer_instance);(case hp|hx|hc|hsz|h1=>rfl);(case hb=>exact aM);(case hfit=>first|exact Nat.le_of_ble_eq_true rfl|rfl);(case hov=>(first|((repeat (first|with_reducible exact ov_nil|apply ov_cons|apply ov_there));done)|rfl));(case hu=>repeat first|exact Upd.here _ _|apply Upd.there|apply Upd.app);(case hν'=>exact aE)|fail)
       all_goals refine Dd ?_
   all_goals refine v_perm (ν:=(b10,.cells [.int .i64 ac,.int .i64 aq,.int .i64 ae,.bool af,.string av5,.int .i64 ar].toArray 66 (0,0))::imB 59 b9 m5 C6 cc6 A6 c6 A6' c6'::(b4,Obj.cells [.int .i64 0,.int .i64 0,.slice none 0 0,.int .i64 0,.slice none 0 0,.slice none 0 0].toArray 59 (0,0))::imB 59 b6 m1 C1 cc1 A1 c1 A1' c1'::ν) (by first|exact List.Perm.refl _|exact List.Perm.swap _ _ _) ?_
   all_goals
    repeat' (first|apply v_read;(case hop=>(apply r_loadNo;(case hx=>rfl);(case h=>exact aM);(case hd|hn=>rfl)));(case hd=>rfl)|refine Wa ?_|(refine Wc ⟨?_,?_⟩<;>first|exact True.intro|intro h)|refine Wr ?_|(refine Wb ?_;intro b)|fail)
   all_goals
    (have hpm:=List.perm_append_comm (l₁:=([(b,.cells [.int .i64 ac,.int .i64 aq,.int .i64 ae,.bool af,.string av5,.int .i64 ar].toArray 66 (0,0)),(b10,.cells [.int .i64 ac,.int .i64 aq,.int .i64 ae,.bool af,.string av5,.int .i64 ar].toArray 66 (0,0)),imB 59 b9 m5 C6 cc6 A6 c6 A6' c6',(b4,Obj.cells [.int .i64 0,.int .i64 0,.slice none 0 0,.int .i64 0,.slice none 0 0,.slice none 0 0].toArray 59 (0,0)),imB 59 b6 m5 C6 cc6 A6 c6 A6' c6']:OH)) (l₂:=ν)
     refine v_append (e:=66) (agg:=true) (sz:=6) (bytes:=56) (zero:=zAn) rfl (by omega) rfl rfl hga hpm (m':=1) (us:=An.cells ⟨ac,aq,ae,af,av5,ar⟩) (Src.own (e:=66) (List.Mem.head _) rfl) rfl (by omega) (by simp only [maxLen];omega) rfl fun v' ν' hg'=>?_
     have hga':=GrA.snoc hg'
     refine v_perm (List.perm_append_comm (l₁:=ν')) ?_
     refine v_drop (ν:=[(b4,Obj.cells [.int .i64 0,.int .i64 0,.slice none 0 0,.int .i64 0,.slice none 0 0,.slice none 0 0].toArray 59 (0,0)),imB 59 b6 m5 C6 cc6 A6 c6 A6' c6']++ν') (List.Sublist.cons _ (List.Sublist.cons _ (List.Sublist.cons _ (List.Sublist.refl _)))) ?_)
   all_goals
    repeat' (first|refine Wa ?_|(refine Wc ⟨?_,?_⟩<;>first|exact True.intro|intro h)|refine Wr ?_|(refine Wb ?_;intro b)|fail)
   all_goals
    exact Va rfl ⟨GH.le_trans hle (GH.le_trans hle5 hle6),k+1,m5,C6,cc6,A6,c6,A6',c6',_,v',ν',by omega,rfl,rfl,hga',hm6,hk5,by omega,by omega,by rw [List.length_append,List.length_singleton];omega,hnx⟩
 ·obtain rfl:k=l.length:=by omega
  rw [hrun,List.drop_length]
  repeat' (first|apply v_read;(case hop=>(apply r_loadNo;(case hx=>rfl);(case h=>exact aM);(case hd|hn=>rfl)));(case hd=>rfl)|refine Wa ?_|(refine Wc ⟨?_,?_⟩<;>first|exact True.intro|intro h)|refine Wr ?_|(refine Wb ?_;intro b)|fail)
  refine v_retM [] (outsM_cell_tmp (sz:=6) (vs:=[.int .i64 m1.index,.int .i64 m1.active,.slice C1 m1.confs.length cc1,.int .i64 m1.st.schema,.slice A1 m1.st.pairs.length c1,.slice A1' m1.st.sess.length c1']) (e:=59) rfl rfl rfl aM rfl) (List.nil_sublist _) ⟨_,_,rfl,hm1⟩
end Go.Proofs.YtkofafmiabmobaaGreatDoor
/-
  audit (layer 44): the members at any index, by any log; the same by the reference.
-/
set_option maxHeartbeats 2000000
namespace Go.Proofs.YtkofafmiabmobaaGreatDoor
open Go.Vx Go.ChangeShapes Go.WideShapes Go.ChangeAt Go.RowKit
noncomputable def audL (m:Im) (ix:Int):List Cm→List Int
 | []=>membersI m ix
 | c::l=>if OpenP m ix then membersI m ix else audL (if cmdI c=0 then nextI m c else m) ix l
noncomputable def audR (ml:List Int) (log:List Cm) (ix:Int):List Int:=if ConfOK [(1,ml)]∧1≤ix then audL (firstI ml) ix log else []
theorem audL_open {m:Im}{ix:Int}(h:OpenP m ix) (l:List Cm):audL m ix l=membersI m ix:=by
 cases l with
 | nil=>rfl
 | cons c l=>exact if_pos h
abbrev imA (b:Nat) (m:Im) (C:Option Addr) (cc:Nat) (A:Option Addr) (c:Nat) (A':Option Addr) (c':Nat):Nat×Obj:=imB 59 b m C cc A c A' c'
abbrev ixB (b:Nat) (ix:Int):Nat×Obj:=(b,.cells [.int .i64 ix].toArray 3 (0,0))
theorem audMem1_s {G:GH}(hT:TabsG G) {m:Im}{b bi:Nat}{C A A':Option Addr}{cc c c':Nat}(hm:ImV G m (.agg [.int .i64 m.index,.int .i64 m.active,.slice C m.confs.length cc,.int .i64 m.st.schema,.slice A m.st.pairs.length c,.slice A' m.st.sess.length c'].toArray)) (hz:StZ m.st) (hc:CoZ m.confs) (ix:Int) (hi:(Lit.int .i64 ix).wf=true) :
 Con Tryz.prog 21 #[.pointer (some ⟨b,0,none⟩),.pointer (some ⟨bi,0,none⟩)] G [imA b m C cc A c A' c',ixB bi ix] (fun r G' μ'=>μ'=[imA b m C cc A c A' c',ixB bi ix]∧Sl G' 1 (IntR .i64) r (membersI m ix)):=by
 have q:=winMembers_s hT ix hm hz hc hi
 (refine v_enter Tryz.func21 rfl Tryz.ntmps21 rfl ?_;intro B _)
 repeat' (first|apply v_read;(case hop=>(apply r_loadNo;(case hx=>rfl);(case h=>exact aM);(case hd|hn=>rfl)));(case hd=>rfl)|refine Wa ?_|(refine Wc ⟨?_,?_⟩<;>first|exact True.intro|intro h)|refine Wr ?_|fail)
 refine cQ rfl q ?_
 rintro r G1 _ - ⟨rfl,hr⟩
 repeat' (first|refine Wa ?_|(refine Wc ⟨?_,?_⟩<;>first|exact True.intro|intro h)|refine Wr ?_|fail)
 exact v_ret _ (outsA1 rfl rfl) (List.Sublist.refl _) ⟨rfl,hr⟩
set_option maxHeartbeats 1000000 in
theorem audMembers_s {G:GH}(hT:TabsG G) {sv lv:Value}{ml:List Int}{log:List Cm}(hs:Sl G 1 (IntR .i64) sv ml) (hn:ml.length≤1000) (hl:Cms G lv log) (hlw:CmsW log) (ix:Int) (hi:(Lit.int .i64 ix).wf=true) :
 Con Tryz.prog 8 #[sv,lv,.int .i64 ix] G [] (fun r G' μ'=>μ'=[]∧Sl G' 1 (IntR .i64) r (audR ml log ix)):=by
 obtain ⟨LA,lc,rfl,hlc,hcm,hsome,-⟩:=rowOpen hl
 simp only [maxLen] at hcm
 have hln:=hlw.1
 have hib:=bounds_i64 hi
 (refine v_enter Tryz.func8 rfl Tryz.ntmps8 rfl ?_;intro B _)
 repeat' (first|apply v_box (d:=5) (zs:=[.int .i64 ix]);(case hx|hz|hd=>rfl);intro b5|refine Wa ?_|(refine Wc ⟨?_,?_⟩<;>first|exact True.intro|intro h)|refine Wr ?_|(refine Wb ?_;intro b)|fail)
 refine cQ rfl (winFirst_s hs hn) ?_
 rintro _ G1 _ hle1 ⟨rfl,v1,rfl,hv1⟩
 obtain ⟨C1,cc1,A1,c1,A1',c1',rfl,hC1,hp1,hss1⟩:=id hv1
 by_cases hP:ConfOK [(1,ml)]
 ·rw [if_pos hP]
  by_cases h0:ix<1
  ·have hR:audR ml log ix=[]:=if_neg (by omega)
   repeat' (first|apply v_read;(case hop=>(apply r_loadNo;(case hx=>rfl);(case h=>exact aM);(case hd|hn=>rfl)));(case hd=>rfl)|refine Wa ?_|(refine Wc ⟨?_,?_⟩<;>first|exact True.intro|intro h)|refine Wr ?_|(refine Wb ?_;intro b)|fail)
   exact Vy rfl rfl ⟨rfl,by rw [hR];exact Sl.nil⟩
  ·have hR:audR ml log ix=audL (firstI ml) ix log:=if_pos ⟨hP,by omega⟩
   have hfi:firstI ml=⟨0,0,[(1,ml)],emp⟩:=if_pos hP
   have hm0:ImP (firstI ml):=by rw [hfi];exact ⟨⟨by simp,by simp,by simp,by simp⟩,hP,emp_ok,by simp⟩
   have hi0:(firstI ml).index≤0∧0≤(firstI ml).index∧(firstI ml).confs.length≤1:=by rw [hfi];simp
   generalize firstI ml=m0 at *
   repeat' (first|apply v_read;(case hop=>(apply r_loadNo;(case hx=>rfl);(case h=>exact aM);(case hd|hn=>rfl)));(case hd=>rfl)|apply v_alloc (d:=7);(case hz|hd=>rfl);intro b7|refine Wa ?_|(refine Wc ⟨?_,?_⟩<;>first|exact True.intro|intro h)|refine Wr ?_|(refine Wb ?_;intro b)|fail)
   refine v_perm (ν:=[imA b7 m0 C1 cc1 A1 c1 A1' c1',ixB b5 ix]) (List.Perm.refl _) ?_
   refine v_loop [30,29,28,9,7,5] (fun us G' μ'=>GH.le G G'∧∃ (k:Nat) (m1:Im) (C1:Option Addr) (cc1:Nat) (A1:Option Addr) (c1:Nat) (A1':Option Addr) (c1':Nat),k≤log.length∧us=[Value.int .i64 (k:Nat),.int .i64 (log.length:Nat),.slice LA log.length lc,.func (.func 21) #[] #[.pointer (some ⟨b7,0,none⟩),.pointer (some ⟨b5,0,none⟩)],.pointer (some ⟨b7,0,none⟩),.pointer (some ⟨b5,0,none⟩)]∧μ'=[imA b7 m1 C1 cc1 A1 c1 A1' c1',ixB b5 ix]∧ImV G' m1 (.agg [.int .i64 m1.index,.int .i64 m1.active,.slice C1 m1.confs.length cc1,.int .i64 m1.st.schema,.slice A1 m1.st.pairs.length c1,.slice A1' m1.st.sess.length c1'].toArray)∧ImP m1∧m1.index≤k∧m1.confs.length≤k+1∧audR ml log ix=audL m1 ix (log.drop k)) (fun us=>log.length-(headI us).toNat) rfl ⟨hle1,0,m0,C1,cc1,A1,c1,A1',c1',by omega,rfl,rfl,hv1,hm0,by omega,by omega,hR⟩ ?_
   clear hv1 hC1 hp1 hss1 hm0 hi0 hR hfi
   rintro us G' _ ⟨hle,k,m1,C1,cc1,A1,c1,A1',c1',hk,rfl,rfl,hm1,hok1,hix,hcl,hR⟩
   have hco:=hok1.2.1.coZ (by omega)
   have hz1:=hok1.2.2.1.small
   have q1:=audMem1_s (b:=b7) (bi:=b5) (hT.up hle) hm1 hz1 hco ix hi
   have h0i:=hok1.1.1
   by_cases hlt:k<log.length
   ·have e1:((k:Nat):Int).toNat=k:=by omega
    have hA:=hsome (by omega)
    have hck:=(rowOpen' (hl.mono hle)).2.2.2.2.2.2 k hlt
    obtain ⟨hxo,hxw⟩:=hlw.2 _ (List.getElem_mem hlt)
    have hcc:=fun G2 (h2:GH.le G' G2)=>cmdCheck_s (hT.up (GH.le_trans hle h2)) (log[k]) hxo
    have hap:=fun G2 (h2:GH.le G' G2)=>winApply_s (hT.up (GH.le_trans hle h2)) (hm1.up h2) hz1 hco (log[k]) hxo hxw
    have hop:=fun G2 (h2:GH.le G' G2)=>winOpen_s ix (hm1.up h2) h0i hi
    have hwi:cmdI log[k]=0→winS m1 log[k]=(nextI m1 log[k],(applyS m1.st log[k]).2.1,0):=fun h=>by
     unfold winS
     rw [if_neg (fun h=>h hok1),if_neg (by omega),if_neg (by simp [h])]
    have hnx:audR ml log ix=if OpenP m1 ix then membersI m1 ix else audL (if cmdI log[k]=0 then nextI m1 log[k] else m1) ix (log.drop (k+1)):=by
     rw [hR,List.drop_eq_getElem_cons hlt];rfl
    have hkp:cmdI log[k]=0→ImP (nextI m1 log[k])∧(nextI m1 log[k]).index=m1.index+1∧(nextI m1 log[k]).confs.length≤k+1+1:=fun h=>⟨nextI_ok hok1 (by omega) h,rfl,by have:=nextI_len (c:=log[k]) hok1 (by omega);omega⟩
    clear hxo hxw hco hR
    generalize applyS m1.st log[k]=ap at *
    obtain ⟨s5,⟨ac,aq,ae,af,av5,ar⟩,e5⟩:=ap
    generalize winS m1 log[k]=ws at *
    generalize nextI m1 log[k]=m5 at *
    generalize log[k]=x at *
    generalize cmdI x=ci at *
    repeat' (first|apply v_alloc (d:=11);(case hz|hd=>rfl);intro b11|refine Wa ?_|(refine Wc ⟨?_,?_⟩<;>first|exact True.intro|intro h)|refine RN hck ?_|refine Wr ?_|(refine Wb ?_;intro b)|fail)
    refine v_callC (first:=[]) (captured:=[.pointer (some ⟨b7,0,none⟩),.pointer (some ⟨b5,0,none⟩)]) (vs:=[]) (μ1:=[imA b7 m1 C1 cc1 A1 c1 A1' c1',ixB b5 ix]) (μ2:=[(b11,.cells x.cells.toArray 41 (0,0))]) rfl rfl q1 aV rfl ?_
    rintro r G2 _ hle2 ⟨rfl,hr⟩
    by_cases ho:OpenP m1 ix
    ·have q2:=hop G2 hle2
     rw [decide_eq_true ho] at q2
     rw [if_pos ho] at hnx
     repeat' (first|apply v_read;(case hop=>(apply r_loadNo;(case hx=>rfl);(case h=>exact aM);(case hd|hn=>rfl)));(case hd=>rfl)|refine Wa ?_|(refine Wc ⟨?_,?_⟩<;>first|exact True.intro|intro h)|refine cJ q2 ?_|refine Wr ?_|(refine Wb ?_;intro b)|fail)
     exact Vy rfl rfl ⟨rfl,by rw [hnx];exact hr⟩
    ·have q2:=hop G2 hle2
     rw [decide_eq_false ho] at q2
     rw [if_neg ho] at hnx
     repeat' (first|apply v_read;(case hop=>(apply r_loadNo;(case hx=>rfl);(case h=>exact aM);(case hd|hn=>rfl)));(case hd=>rfl)|refine Wa ?_|(refine Wc ⟨?_,?_⟩<;>first|exact True.intro|intro h)|refine cJ q2 ?_|refine Wr ?_|(refine Wb ?_;intro b)|fail)
     refine cQ rfl (hcc G2 hle2) ?_
     rintro _ G3 _ hle3 ⟨rfl,rfl⟩
     have hle23:=GH.le_trans hle2 hle3
     by_cases hci:ci=0
     ·rw [if_pos hci] at hnx
      have hap3:=hap G3 hle23
      rw [hwi hci] at hap3
      obtain ⟨hk5,hi5,hl5⟩:=hkp hci
      subst hci
      repeat' (first|apply v_read;(case hop=>(apply r_loadNo;(case hx=>rfl);(case h=>exact aM);(case hd|hn=>rfl)));(case hd=>rfl)|refine Wa ?_|(refine Wc ⟨?_,?_⟩<;>first|exact True.intro|intro h)|refine Wr ?_|(refine Wb ?_;intro b)|fail)
      refine cQ rfl hap3 ?_
      rintro _ G4 _ hle4 ⟨rfl,v4,rfl,hv4⟩
      obtain ⟨C4,cc4,A4,c4,A4',c4',rfl,hC4,hp4,hss4⟩:=id hv4
      repeat' (first|apply v_read;(case hop=>(apply r_loadNo;(case hx=>rfl);(case h=>exact aM);(case hd|hn=>rfl)));(case hd=>rfl)|apply v_alloc (d:=13);(case hz|hd=>rfl);intro b13|apply v_alloc (d:=14);(case hz|hd=>rfl);intro b14|refine Wa ?_|(refine Wc ⟨?_,?_⟩<;>first|exact True.intro|intro h)|refine Wr ?_|(refine Wb ?_;intro b)|fail)
      refine v_drop (ν:=[imA b7 m5 C4 cc4 A4 c4 A4' c4',ixB b5 ix]) sS ?_
      exact Va rfl ⟨GH.le_trans hle (GH.le_trans hle23 hle4),k+1,m5,C4,cc4,A4,c4,A4',c4',by omega,rfl,rfl,hv4,hk5,by omega,by omega,hnx⟩
     ·rw [if_neg hci] at hnx
      repeat' (first|refine Wa ?_|(refine Wc ⟨?_,?_⟩<;>first|exact True.intro|intro h)|refine Wr ?_|(refine Wb ?_;intro b)|fail)
      refine v_drop (ν:=[imA b7 m1 C1 cc1 A1 c1 A1' c1',ixB b5 ix]) sS ?_
      exact Va rfl ⟨GH.le_trans hle hle23,k+1,m1,C1,cc1,A1,c1,A1',c1',by omega,rfl,rfl,hm1.up hle23,hok1,by omega,by omega,hnx⟩
   ·obtain rfl:k=log.length:=by omega
    rw [List.drop_length] at hR
    repeat' (first|refine Wa ?_|(refine Wc ⟨?_,?_⟩<;>first|exact True.intro|intro h)|refine Wr ?_|(refine Wb ?_;intro b)|fail)
    refine v_callC (first:=[]) (captured:=[.pointer (some ⟨b7,0,none⟩),.pointer (some ⟨b5,0,none⟩)]) (vs:=[]) (μ1:=[imA b7 m1 C1 cc1 A1 c1 A1' c1',ixB b5 ix]) (μ2:=[]) rfl rfl q1 aV rfl ?_
    rintro r G2 _ hle2 ⟨rfl,hr⟩
    repeat' (first|refine Wa ?_|(refine Wc ⟨?_,?_⟩<;>first|exact True.intro|intro h)|refine Wr ?_|(refine Wb ?_;intro b)|fail)
    exact Vy rfl rfl ⟨rfl,by rw [hR];exact hr⟩
 ·have hR:audR ml log ix=[]:=if_neg fun h=>hP h.1
  rw [if_neg hP]
  repeat' (first|refine Wa ?_|(refine Wc ⟨?_,?_⟩<;>first|exact True.intro|intro h)|refine Wr ?_|(refine Wb ?_;intro b)|fail)
  exact Vy rfl rfl ⟨rfl,by rw [hR];exact Sl.nil⟩
theorem runW_snoc:∀ (l:List Cm) (m:Im) (c:Cm),runW m (l++[c])=if cmdI c=0 then nextI (runW m l) c else runW m l
 | [],m,c=>by
  show (if cmdI c≠0 then m else nextI m c)=_
  by_cases h:cmdI c=0<;>simp [h,runW]
 | x::l,m,c=>by
  show (if cmdI x≠0 then runW m (l++[c]) else runW (nextI m x) (l++[c]))=if cmdI c=0 then nextI (if cmdI x≠0 then runW m l else runW (nextI m x) l) c else (if cmdI x≠0 then runW m l else runW (nextI m x) l)
  by_cases h:cmdI x≠0
  ·simp only [if_pos h];exact runW_snoc l m c
  ·simp only [if_neg h];exact runW_snoc l (nextI m x) c
theorem runW_keep:∀ (l:List Cm) {m:Im}{N:Nat},ImP m→m.index+l.length<4294967292→m.confs.length≤N→ImP (runW m l)∧(runW m l).index≤m.index+l.length∧(runW m l).confs.length≤N+l.length
 | [],m,N,h,_,hN=>⟨h,by simp [runW],by simpa [runW] using hN⟩
 | c::l,m,N,h,hx,hN=>by
  rw [List.length_cons] at hx ⊢
  show ImP (if cmdI c≠0 then _ else _)∧(if cmdI c≠0 then runW m l else runW (nextI m c) l).index≤_∧(if cmdI c≠0 then runW m l else runW (nextI m c) l).confs.length≤_
  by_cases hc:cmdI c≠0
  ·rw [if_pos hc]
   obtain ⟨a,b,c⟩:=runW_keep l h (by omega) hN
   exact ⟨a,by omega,by omega⟩
  ·have hc:cmdI c=0:=by omega
   rw [if_neg (by simp [hc])]
   have h1:(nextI m c).index=m.index+1:=rfl
   obtain ⟨a,b,c⟩:=runW_keep l (nextI_ok h (by omega) hc) (by omega) (Nat.le_trans (nextI_len h (by omega)) (Nat.add_le_add_right hN 1))
   exact ⟨a,by omega,by omega⟩
set_option maxHeartbeats 1000000 in
theorem refMembers44_s {G:GH}{sv lv:Value}{ml:List Int}{log:List Cm}(hs:Sl G 1 (IntR .i64) sv ml) (hl:Cms G lv log) (hlw:CmsW log) (ix:Int) (hi:(Lit.int .i64 ix).wf=true) :
 Con Tryz.prog 9 #[sv,lv,.int .i64 ix] G [] (fun r G' μ'=>μ'=[]∧Sl G' 1 (IntR .i64) r (audR ml log ix)):=by
 obtain ⟨LA,lc,rfl,hlc,hcm,hsome,-⟩:=rowOpen hl
 obtain ⟨SA,sc,rfl,hsc,hsm,-⟩:=id hs.openInt
 simp only [maxLen] at hcm hsm
 have hln:=hlw.1
 have hib:=bounds_i64 hi
 (refine v_enter Tryz.func9 rfl Tryz.ntmps9 rfl ?_;intro B _)
 repeat' (first|apply v_buildSlice (d:=13);(case hz|hi=>rfl);(case hv=>(simp only [List.map_cons,List.map_nil];repeat (first|with_reducible exact evs_nil|apply evs_cons;(case h1=>rfl))));(case hp=>(first|with_reducible exact pk_nil|apply pk_cons;(case hc|hs=>rfl);(case h=>(first|with_reducible exact pk_nil|apply pk_cons;(case hc|hs=>rfl);(case h=>(first|with_reducible exact pk_nil|apply pk_cons;(case hc|hs=>rfl);(case h=>(first|with_reducible exact pk_nil|apply pk_cons;(case hc|hs=>rfl);(case h=>(first|with_reducible exact pk_nil|apply pk_cons;(case hc|hs=>rfl);(case h=>(first|with_reducible exact pk_nil|apply pk_cons;(case hc|hs=>rfl);(case h=>(first|with_reducible exact pk_nil|apply pk_cons;(case hc|hs=>rfl);(case h=>(first|with_reducible exact pk_nil|apply pk_cons;(case hc|hs=>rfl);(case h=>(with_reducible exact pk_nil));(case he=>(first|((repeat (first|with_reducible exact ap_nil|apply ap_cons));done)|rfl))|rfl));(case he=>(first|((repeat (first|with_reducible exact ap_nil|apply ap_cons));done)|rfl))|rfl));(case he=>(first|((repeat (first|with_reducible exact ap_nil|apply ap_cons));done)|rfl))|rfl));(case he=>(first|((repeat (first|with_reducible exact ap_nil|apply ap_cons));done)|rfl))|rfl));(case he=>(first|((repeat (first|with_reducible exact ap_nil|apply ap_cons));done)|rfl))|rfl));(case he=>(first|((repeat (first|with_reducible exact ap_nil|apply ap_cons));done)|rfl))|rfl));(case he=>(first|((repeat (first|with_reducible exact ap_nil|apply ap_cons));done)|rfl))|rfl));(case he=>(first|((repeat (first|with_reducible exact ap_nil|apply ap_cons));done)|rfl))|rfl));(case hb|hd=>rfl);intro b9|refine Wa ?_|(refine Wc ⟨?_,?_⟩<;>first|exact True.intro|intro h)|refine Wr ?_|(refine Wb ?_;intro b)|fail)
 refine v_frz [(b9,.cells [Value.int .i64 1,.slice SA ml.length sc].toArray 71 (0,0))] (PickA.here _) ?_
 intro G1 hle1 hG1
 have qk:=refConfCheck_s (Cos.made1 (x:=1) (WalkArith.wf_i64 (by decide)) (hs.mono hle1) (hG1 _ _ aM))
 by_cases hP:ConfOK [(1,ml)]
 ·rw [decide_eq_true hP] at qk
  by_cases h0:ix<1
  ·have hR:audR ml log ix=[]:=if_neg (by omega)
   repeat' (first|refine Wa ?_|(refine Wc ⟨?_,?_⟩<;>first|exact True.intro|intro h)|refine cJ qk ?_|refine Wr ?_|(refine Wb ?_;intro b)|fail)
   exact Vy rfl rfl ⟨rfl,by rw [hR];exact Sl.nil⟩
  ·have hR:audR ml log ix=audL (firstI ml) ix log:=if_pos ⟨hP,by omega⟩
   have hfi:firstI ml=⟨0,0,[(1,ml)],emp⟩:=if_pos hP
   have hm0:ImP (firstI ml):=by rw [hfi];exact ⟨⟨by simp,by simp,by simp,by simp⟩,hP,emp_ok,by simp⟩
   have hi0:(firstI ml).index=0∧(firstI ml).confs.length≤1:=by rw [hfi];simp
   repeat' (first|refine Wa ?_|(refine Wc ⟨?_,?_⟩<;>first|exact True.intro|intro h)|refine cJ qk ?_|refine Wr ?_|(refine Wb ?_;intro b)|fail)
   refine v_loop [8,7,2,1,0] (fun us G' μ'=>GH.le G G'∧μ'=[]∧∃ k:Nat,k≤log.length+1∧us=[Value.int .i64 (k:Nat),.int .i64 (runW (firstI ml) (log.take k)).index,.int .i64 ix,.slice LA log.length lc,.slice SA ml.length sc]∧(k≤log.length→audR ml log ix=audL (runW (firstI ml) (log.take k)) ix (log.drop k))∧(log.length<k→audR ml log ix=[])) (fun us=>log.length+1-(headI us).toNat) rfl ⟨hle1,rfl,0,by omega,by rw [hfi];rfl,fun _=>hR,by omega⟩ ?_
   rintro us G' _ ⟨hle,rfl,k,hk,rfl,hR1,hR2⟩
   by_cases hlt:k≤log.length
   ·have hR1:=hR1 hlt
    clear hR2
    obtain ⟨hok1,hix,-⟩:=runW_keep (log.take k) hm0 (by rw [List.length_take];omega) hi0.2
    rw [List.length_take] at hix
    have h0i:=hok1.1.1
    have hop:OpenP (runW (firstI ml) (log.take k)) ix↔(runW (firstI ml) (log.take k)).index<ix∧ix≤(runW (firstI ml) (log.take k)).index+4:=by unfold OpenP;omega
    by_cases ho:OpenP (runW (firstI ml) (log.take k)) ix
    ·have ho2:=hop.1 ho
     rw [audL_open ho] at hR1
     have hmi:membersI (runW (firstI ml) (log.take k)) ix=atK (runW (firstI ml) (log.take k)).confs ix (runW (firstI ml) (log.take k)).confs.length:=if_pos ⟨hok1,ho⟩
     rw [hmi] at hR1
     have qr:=refWRun_s (hs.mono hle) hP ((hl.mono hle).take (k:=k) hlt) ⟨by rw [List.length_take];omega,fun c hc=>hlw.2 c (List.mem_of_mem_take hc)⟩
     rw [← hfi] at qr
     generalize runW (firstI ml) (log.take k)=m1 at *
     repeat' (first|apply v_pure;(case hop=>(apply p_sliceHB k;(case hx|hl=>rfl);(case hz|h1=>omega)));(case hd=>rfl)|apply v_alloc (d:=9);(case hz|hd=>rfl);intro b9|refine Wa ?_|(refine Wc ⟨?_,?_⟩<;>first|exact True.intro|intro h)|refine Wr ?_|(refine Wb ?_;intro b)|fail)
     refine cQ rfl qr ?_
     rintro _ G2 ν2 hle2 ⟨v2,av,rfl,hv2⟩
     obtain ⟨C2,cc2,A2,c2,A2',c2',rfl,hC2,hp2,hss2⟩:=id hv2
     repeat' (first|apply v_alloc (d:=9);(case hz|hd=>rfl);intro b9|apply v_read;(case hop=>(apply r_loadNo;(case hx=>rfl);(case h=>exact aM);(case hd|hn=>rfl)));(case hd=>rfl)|refine Wa ?_|(refine Wc ⟨?_,?_⟩<;>first|exact True.intro|intro h)|refine Wr ?_|(refine Wb ?_;intro b)|fail)
     refine v_drop (List.nil_sublist _) ?_
     refine cQ rfl (refAt_s ix hC2) ?_
     rintro r G3 _ - ⟨hG3,rfl,hr⟩
     subst G3
     repeat' (first|refine Wa ?_|(refine Wc ⟨?_,?_⟩<;>first|exact True.intro|intro h)|refine Wr ?_|(refine Wb ?_;intro b)|fail)
     exact Vy rfl rfl ⟨rfl,by rw [hR1];exact hr⟩
    ·have ho2:¬ ((runW (firstI ml) (log.take k)).index<ix∧ix≤(runW (firstI ml) (log.take k)).index+4):=fun h=>ho (hop.2 h)
     clear hop
     by_cases hlt2:k<log.length
     ·have e1:((k:Nat):Int).toNat=k:=by omega
      have hA:=hsome (by omega)
      have hck:=(rowOpen' (hl.mono hle)).2.2.2.2.2.2 k hlt2
      have hcc:=refCmdCheck_s (G:=G') (log[k]) (hlw.2 _ (List.getElem_mem hlt2)).1
      have hnx:audR ml log ix=audL (runW (firstI ml) (log.take (k+1))) ix (log.drop (k+1)):=by
       rw [hR1,List.drop_eq_getElem_cons hlt2,List.take_succ_eq_append_getElem hlt2,runW_snoc]
       exact if_neg ho
      have hni:(runW (firstI ml) (log.take (k+1))).index=if cmdI log[k]=0 then (runW (firstI ml) (log.take k)).index+1 else (runW (firstI ml) (log.take k)).index:=by
       rw [List.take_succ_eq_append_getElem hlt2,runW_snoc]
       split<;>rfl
      clear hR1
      generalize runW (firstI ml) (log.take k)=m1 at *
      generalize log[k]=x at *
      generalize cmdI x=ci at *
      repeat' (first|refine Wa ?_|(refine Wc ⟨?_,?_⟩<;>first|exact True.intro|intro h)|refine RN hck ?_|refine Wr ?_|(refine Wb ?_;intro b)|fail)
      all_goals
       (refine cQ rfl hcc ?_
        rintro _ G3 _ hle3 ⟨rfl,rfl⟩
        by_cases hci:ci=0
        ·rw [if_pos hci] at hni
         subst hci
         repeat' (first|refine Wa ?_|(refine Wc ⟨?_,?_⟩<;>first|exact True.intro|intro h)|refine Wr ?_|(refine Wb ?_;intro b)|fail)
         exact Va rfl ⟨GH.le_trans hle hle3,rfl,k+1,by omega,by rw [hni];rfl,fun _=>hnx,by omega⟩
        ·rw [if_neg hci] at hni
         repeat' (first|refine Wa ?_|(refine Wc ⟨?_,?_⟩<;>first|exact True.intro|intro h)|refine Wr ?_|(refine Wb ?_;intro b)|fail)
         exact Va rfl ⟨GH.le_trans hle hle3,rfl,k+1,by omega,by rw [hni];rfl,fun _=>hnx,by omega⟩)
     ·obtain rfl:k=log.length:=by omega
      have hR3:audR ml log ix=[]:=by
       rw [hR1,List.drop_length]
       exact if_neg fun h=>ho h.2
      have hni:runW (firstI ml) (log.take (log.length+1))=runW (firstI ml) (log.take log.length):=by rw [List.take_length,List.take_of_length_le (by omega)]
      have hni2:=congrArg Im.index hni
      clear hR1
      generalize runW (firstI ml) (log.take log.length)=m1 at *
      repeat' (first|refine Wa ?_|(refine Wc ⟨?_,?_⟩<;>first|exact True.intro|intro h)|refine Wr ?_|(refine Wb ?_;intro b)|fail)
      all_goals exact v_again rfl ⟨hle,rfl,log.length+1,by omega,by rw [hni2];rfl,by omega,fun _=>hR3⟩ (by simp [headI]<;>omega)
   ·have hR3:=hR2 (by omega)
    obtain rfl:k=log.length+1:=by omega
    repeat' (first|refine Wa ?_|(refine Wc ⟨?_,?_⟩<;>first|exact True.intro|intro h)|refine Wr ?_|(refine Wb ?_;intro b)|fail)
    exact Vy rfl rfl ⟨rfl,by rw [hR3];exact Sl.nil⟩
 ·have hR:audR ml log ix=[]:=if_neg fun h=>hP h.1
  rw [decide_eq_false hP] at qk
  repeat' (first|refine Wa ?_|(refine Wc ⟨?_,?_⟩<;>first|exact True.intro|intro h)|refine cJ qk ?_|refine Wr ?_|(refine Wb ?_;intro b)|fail)
  exact Vy rfl rfl ⟨rfl,by rw [hR];exact Sl.nil⟩
end Go.Proofs.YtkofafmiabmobaaGreatDoor
/-
  audit (layer 44): Lag; awake.
-/
set_option maxHeartbeats 2000000
namespace Go.Proofs.YtkofafmiabmobaaGreatDoor
open Go.Vx Go.ChangeShapes Go.WideShapes Go.ChangeAt Go.RowKit
theorem Con.frameG {P:Program}{f:FuncId}{args:Array Value}{G:GH}{μ μ1 μ2:OH}{Ψ:Value→GH→OH→Prop}(h:Con P f args G μ1 Ψ) (hp:μ.Perm (μ1++μ2)):Con P f args G μ (fun v G' μ'=>∃ μ1',Ψ v G' μ1'∧μ'=μ1'++μ2):=by
 unfold Con at h ⊢
 intro w hw
 have hw':=hw.perm hp
 refine Calls.mono (h w hw'.split.1) ?_
 rintro e w' ⟨v,rfl,G',μ1',hst,hΨ⟩
 exact ⟨v,rfl,G',μ1'++μ2,(hst.frame hw').permL hp.symm,μ1',hΨ,rfl⟩
abbrev zsL (k:Nat):List Value:=List.replicate k (.int .i64 0)
theorem zsL_snoc (k:Nat):zsL (k+1)=zsL k++[.int .i64 0]:=by
 unfold zsL
 rw [List.replicate_succ']
theorem auLag1_s {G:GH}{xb nb ob cb bg lm:Nat}{A O:Option Addr}{c oc k:Nat}{ps:List Nat}{nodes:Int}{m:Im}{νn νo:OH}(hp:PtS G (.slice A ps.length c) ps) (hN:NewNds G nodes m ps νn) (hz:StZ m.st) (hc:CoZ m.confs) (ha:m.index=0) (hk:k≤9) (hg:Grow 3 1 (.slice O k oc) k (zsL k) νo) {i:Nat}(hi:i<ps.length) (h9:ps.length≤9) :
 Con Tryz.prog 45 #[.int .i64 ((i:Nat)+1),.pointer (some ⟨ob,0,none⟩),.pointer (some ⟨nb,0,none⟩),.pointer (some ⟨xb,0,none⟩)] G ((ob,.cells [.slice O k oc].toArray 22 (0,0))::(nb,.cells [Value.int .i64 0].toArray 3 (0,0))::(xb,.cells [Value.pointer (some ⟨cb,0,none⟩)].toArray 46 (0,0))::((cb,clO (clZ (.slice A ps.length c) bg lm))::νn)++νo) (fun r G' μ'=>r=.bool true∧∃ O' oc' νo',Grow 3 1 (.slice O' (k+1) oc') (k+1) (zsL (k+1)) νo'∧μ'=(ob,.cells [.slice O' (k+1) oc'].toArray 22 (0,0))::(nb,.cells [Value.int .i64 0].toArray 3 (0,0))::(xb,.cells [Value.pointer (some ⟨cb,0,none⟩)].toArray 46 (0,0))::((cb,clO (clZ (.slice A ps.length c) bg lm))::νn)++νo'):=by
 have q:=clImage_s (cb:=cb) (L:=List.tail (clZ nilS bg lm)) hp hN hz hc hi h9
 (refine v_enter Tryz.func45 rfl Tryz.ntmps45 rfl ?_;intro B _)
 repeat' (first|refine Wa ?_|(refine Wc ⟨?_,?_⟩<;>first|exact True.intro|intro h)|refine Wr ?_|(refine Wb ?_;intro b)|fail)
 refine Dz [(nb,.cells [Value.int .i64 0].toArray 3 (0,0)),(xb,.cells [Value.pointer (some ⟨cb,0,none⟩)].toArray 46 (0,0))] ?_
 all_goals (first|refine Tv 1 ?_ (hop:=by first|apply r_load1;rfl;(apply Cell.own;(case h=>exact aM);rfl)|fail)|refine Dt [1] ?_)
 all_goals (first|refine Tv 2 ?_ (hop:=by first|apply r_load1;rfl;(apply Cell.own;(case h=>exact aM);rfl)|fail)|refine Dt [2] ?_)
 all_goals refine Dt [3] ?_
 focus
  refine d_fork 0 4 (by kernel_rfl) ?_ ?_
  rotate_right
  focus
   first|apply x_exec 4;(case hi=>rfl);(case hop=>exact ReadOp.move (r_load1 rfl (Cell.own aM rfl)));(case hd=>rfl);rintro _ G0 _ ⟨rfl,hG0,rfl⟩;subst G0;refine ⟨aE,?_⟩|apply x_call 4 (hs:=q) (μ1:=(cb,clO (clZ (.slice A ps.length c) bg lm))::νn) (μ2:=(ob,.cells [.slice O k oc].toArray 22 (0,0))::(nb,.cells [Value.int .i64 0].toArray 3 (0,0))::(xb,.cells [Value.pointer (some ⟨cb,0,none⟩)].toArray 46 (0,0))::νo);(case hi|ha=>rfl);(case hp=>exact aV);(case hd=>rfl);(case hν'=>exact aE);rintro r G1 _ - ⟨rfl,hr⟩;obtain ⟨C1,cc1,A1,c1,A1',c1',rfl,hC1,hp1,hss1⟩:=id hr;rw [ha]|apply x_buildSlice 4;(case hi=>rfl);(case hT=>infer_instance);(case hL=>infer_instance);(case hz|hl=>rfl);(case hv=>(simp only [List.map_cons,List.map_nil];repeat (first|with_reducible exact evs_nil|apply evs_cons;(case h1=>rfl))));(case hp=>(first|with_reducible exact pk_nil|apply pk_cons;(case hc|hs=>rfl);(case h=>(first|with_reducible exact pk_nil|apply pk_cons;(case hc|hs=>rfl);(case h=>(first|with_reducible exact pk_nil|apply pk_cons;(case hc|hs=>rfl);(case h=>(first|with_reducible exact pk_nil|apply pk_cons;(case hc|hs=>rfl);(case h=>(first|with_reducible exact pk_nil|apply pk_cons;(case hc|hs=>rfl);(case h=>(first|with_reducible exact pk_nil|apply pk_cons;(case hc|hs=>rfl);(case h=>(first|with_reducible exact pk_nil|apply pk_cons;(case hc|hs=>rfl);(case h=>(first|with_reducible exact pk_nil|apply pk_cons;(case hc|hs=>rfl);(case h=>(with_reducible exact pk_nil));(case he=>(first|((repeat (first|with_reducible exact ap_nil|apply ap_cons));done)|rfl))|rfl));(case he=>(first|((repeat (first|with_reducible exact ap_nil|apply ap_cons));done)|rfl))|rfl));(case he=>(first|((repeat (first|with_reducible exact ap_nil|apply ap_cons));done)|rfl))|rfl));(case he=>(first|((repeat (first|with_reducible exact ap_nil|apply ap_cons));done)|rfl))|rfl));(case he=>(first|((repeat (first|with_reducible exact ap_nil|apply ap_cons));done)|rfl))|rfl));(case he=>(first|((repeat (first|with_reducible exact ap_nil|apply ap_cons));done)|rfl))|rfl));(case he=>(first|((repeat (first|with_reducible exact ap_nil|apply ap_cons));done)|rfl))|rfl));(case he=>(first|((repeat (first|with_reducible exact ap_nil|apply ap_cons));done)|rfl))|rfl));(case hb|hd=>rfl);(case hν=>intro e he;first|exact he|(cases he;done)|(simp at he;simp [he];done)|(simp only [List.mem_cons,List.not_mem_nil,or_false] at he;rcases he with rfl|rfl<;>simp;done)|(simp only [List.mem_cons,List.not_mem_nil,or_false] at he;rcases he with rfl|rfl|rfl<;>simp;done)|(simp at he ⊢;try omega));intro b14|apply x_append 4 (hg:=hg) (q':=1) (us:=[.int .i64 0]) (μr:=(b14,_)::(ob,.cells [.slice O k oc].toArray 22 (0,0))::(nb,.cells [Value.int .i64 0].toArray 3 (0,0))::(xb,.cells [Value.pointer (some ⟨cb,0,none⟩)].toArray 46 (0,0))::((cb,clO (clZ (.slice A ps.length c) bg lm))::νn)) (hp:=aV) (hsrc:=Src.own (e:=3) (.head _) rfl);(case hi=>rfl);(case hT=>infer_instance);(case hL=>infer_instance);(case hzs=>rfl);(case hsz=>omega);(case hs|hx=>rfl);(case hb=>omega);(case hb'=>simp only [maxLen];omega);(case hd=>rfl);(case h1=>first|rfl|assumption);(case hν=>intro e he;first|exact he|(cases he;done)|(simp at he;simp [he];done)|(simp only [List.mem_cons,List.not_mem_nil,or_false] at he;rcases he with rfl|rfl<;>simp;done)|(simp only [List.mem_cons,List.not_mem_nil,or_false] at he;rcases he with rfl|rfl|rfl<;>simp;done)|(simp at he ⊢;try omega));intro v15 n15 hg15;obtain ⟨A15,c15,rfl,-,-⟩:=hg15.shape|fail
   all_goals refine Dt [5,6,7] ?_
   focus
    refine d_fork 0 8 (by kernel_rfl) ?_ ?_
    rotate_right
    focus
     first|apply x_exec 8;(case hi=>rfl);(case hop=>exact ReadOp.move (r_load1 rfl (Cell.own aM rfl)));(case hd=>rfl);rintro _ G0 _ ⟨rfl,hG0,rfl⟩;subst G0;refine ⟨aE,?_⟩|apply x_call 8 (hs:=q) (μ1:=(cb,clO (clZ (.slice A ps.length c) bg lm))::νn) (μ2:=(ob,.cells [.slice O k oc].toArray 22 (0,0))::(nb,.cells [Value.int .i64 0].toArray 3 (0,0))::(xb,.cells [Value.pointer (some ⟨cb,0,none⟩)].toArray 46 (0,0))::νo);(case hi|ha=>rfl);(case hp=>exact aV);(case hd=>rfl);(case hν'=>exact aE);rintro r G1 _ - ⟨rfl,hr⟩;obtain ⟨C1,cc1,A1,c1,A1',c1',rfl,hC1,hp1,hss1⟩:=id hr;rw [ha]|apply x_buildSlice 8;(case hi=>rfl);(case hT=>infer_instance);(case hL=>infer_instance);(case hz|hl=>rfl);(case hv=>(simp only [List.map_cons,List.map_nil];repeat (first|with_reducible exact evs_nil|apply evs_cons;(case h1=>rfl))));(case hp=>(first|with_reducible exact pk_nil|apply pk_cons;(case hc|hs=>rfl);(case h=>(first|with_reducible exact pk_nil|apply pk_cons;(case hc|hs=>rfl);(case h=>(first|with_reducible exact pk_nil|apply pk_cons;(case hc|hs=>rfl);(case h=>(first|with_reducible exact pk_nil|apply pk_cons;(case hc|hs=>rfl);(case h=>(first|with_reducible exact pk_nil|apply pk_cons;(case hc|hs=>rfl);(case h=>(first|with_reducible exact pk_nil|apply pk_cons;(case hc|hs=>rfl);(case h=>(first|with_reducible exact pk_nil|apply pk_cons;(case hc|hs=>rfl);(case h=>(first|with_reducible exact pk_nil|apply pk_cons;(case hc|hs=>rfl);(case h=>(with_reducible exact pk_nil));(case he=>(first|((repeat (first|with_reducible exact ap_nil|apply ap_cons));done)|rfl))|rfl));(case he=>(first|((repeat (first|with_reducible exact ap_nil|apply ap_cons));done)|rfl))|rfl));(case he=>(first|((repeat (first|with_reducible exact ap_nil|apply ap_cons));done)|rfl))|rfl));(case he=>(first|((repeat (first|with_reducible exact ap_nil|apply ap_cons));done)|rfl))|rfl));(case he=>(first|((repeat (first|with_reducible exact ap_nil|apply ap_cons));done)|rfl))|rfl));(case he=>(first|((repeat (first|with_reducible exact ap_nil|apply ap_cons));done)|rfl))|rfl));(case he=>(first|((repeat (first|with_reducible exact ap_nil|apply ap_cons));done)|rfl))|rfl));(case he=>(first|((repeat (first|with_reducible exact ap_nil|apply ap_cons));done)|rfl))|rfl));(case hb|hd=>rfl);(case hν=>intro e he;first|exact he|(cases he;done)|(simp at he;simp [he];done)|(simp only [List.mem_cons,List.not_mem_nil,or_false] at he;rcases he with rfl|rfl<;>simp;done)|(simp only [List.mem_cons,List.not_mem_nil,or_false] at he;rcases he with rfl|rfl|rfl<;>simp;done)|(simp at he ⊢;try omega));intro b14|apply x_append 8 (hg:=hg) (q':=1) (us:=[.int .i64 0]) (μr:=(b14,_)::(ob,.cells [.slice O k oc].toArray 22 (0,0))::(nb,.cells [Value.int .i64 0].toArray 3 (0,0))::(xb,.cells [Value.pointer (some ⟨cb,0,none⟩)].toArray 46 (0,0))::((cb,clO (clZ (.slice A ps.length c) bg lm))::νn)) (hp:=aV) (hsrc:=Src.own (e:=3) (.head _) rfl);(case hi=>rfl);(case hT=>infer_instance);(case hL=>infer_instance);(case hzs=>rfl);(case hsz=>omega);(case hs|hx=>rfl);(case hb=>omega);(case hb'=>simp only [maxLen];omega);(case hd=>rfl);(case h1=>first|rfl|assumption);(case hν=>intro e he;first|exact he|(cases he;done)|(simp at he;simp [he];done)|(simp only [List.mem_cons,List.not_mem_nil,or_false] at he;rcases he with rfl|rfl<;>simp;done)|(simp only [List.mem_cons,List.not_mem_nil,or_false] at he;rcases he with rfl|rfl|rfl<;>simp;done)|(simp at he ⊢;try omega));intro v15 n15 hg15;obtain ⟨A15,c15,rfl,-,-⟩:=hg15.shape|fail
     all_goals (first|apply d_keep 0 (hop:=ReadOp.move ?hop);(case hi=>rfl);(case hr=>kernel_rfl);(case hop=>(apply r_load1;rfl;(apply Cell.own;(case h=>exact aM);rfl)));(case hd=>rfl)|((apply x_exec 0;(case hi=>rfl);(case hr=>kernel_rfl);(case hop=>exact ReadOp.move (r_load1 rfl (Cell.own aM rfl)));(case hd=>rfl);rintro _ G0 _ ⟨rfl,hG0,rfl⟩;subst G0;refine ⟨aE,?_⟩))|((apply d_call 0 (hs:=q) (μ1:=(cb,clO (clZ (.slice A ps.length c) bg lm))::νn) (μ2:=(ob,.cells [.slice O k oc].toArray 22 (0,0))::(nb,.cells [Value.int .i64 0].toArray 3 (0,0))::(xb,.cells [Value.pointer (some ⟨cb,0,none⟩)].toArray 46 (0,0))::νo);(case hi=>rfl);(case hr=>kernel_rfl);(case ha=>rfl);(case hp=>exact aV);(case hd=>rfl);(case hν'=>exact aE);rintro r G1 _ - ⟨rfl,hr⟩;obtain ⟨C1,cc1,A1,c1,A1',c1',rfl,hC1,hp1,hss1⟩:=id hr;rw [ha]))|apply d_buildSlice 0;(case hi=>rfl);(case hr=>kernel_rfl);(case hT=>infer_instance);(case hL=>infer_instance);(case hz|hl=>rfl);(case hv=>(simp only [List.map_cons,List.map_nil];repeat (first|with_reducible exact evs_nil|apply evs_cons;(case h1=>rfl))));(case hp=>(first|with_reducible exact pk_nil|apply pk_cons;(case hc|hs=>rfl);(case h=>(first|with_reducible exact pk_nil|apply pk_cons;(case hc|hs=>rfl);(case h=>(first|with_reducible exact pk_nil|apply pk_cons;(case hc|hs=>rfl);(case h=>(first|with_reducible exact pk_nil|apply pk_cons;(case hc|hs=>rfl);(case h=>(first|with_reducible exact pk_nil|apply pk_cons;(case hc|hs=>rfl);(case h=>(first|with_reducible exact pk_nil|apply pk_cons;(case hc|hs=>rfl);(case h=>(first|with_reducible exact pk_nil|apply pk_cons;(case hc|hs=>rfl);(case h=>(first|with_reducible exact pk_nil|apply pk_cons;(case hc|hs=>rfl);(case h=>(with_reducible exact pk_nil));(case he=>(first|((repeat (first|with_reducible exact ap_nil|apply ap_cons));done)|rfl))|rfl));(case he=>(first|((repeat (first|with_reducible exact ap_nil|apply ap_cons));done)|rfl))|rfl));(case he=>(first|((repeat (first|with_reducible exact ap_nil|apply ap_cons));done)|rfl))|rfl));(case he=>(first|((repeat (first|with_reducible exact ap_nil|apply ap_cons));done)|rfl))|rfl));(case he=>(first|((repeat (first|with_reducible exact ap_nil|apply ap_cons));done)|rfl))|rfl));(case he=>(first|((repeat (first|with_reducible exact ap_nil|apply ap_cons));done)|rfl))|rfl));(case he=>(first|((repeat (first|with_reducible exact ap_nil|apply ap_cons));done)|rfl))|rfl));(case he=>(first|((repeat (first|with_reducible exact ap_nil|apply ap_cons));done)|rfl))|rfl));(case hb|hd=>rfl);(case hν=>exact aE);intro b14|apply d_append 0 (hg:=hg) (q':=1) (us:=[.int .i64 0]) (μr:=(b14,_)::(ob,.cells [.slice O k oc].toArray 22 (0,0))::(nb,.cells [Value.int .i64 0].toArray 3 (0,0))::(xb,.cells [Value.pointer (some ⟨cb,0,none⟩)].toArray 46 (0,0))::((cb,clO (clZ (.slice A ps.length c) bg lm))::νn)) (hp:=aV) (hsrc:=Src.own (e:=3) (.head _) rfl);(case hi=>rfl);(case hr=>kernel_rfl);(case hT=>infer_instance);(case hL=>infer_instance);(case hzs=>rfl);(case hsz=>omega);(case hs|hx=>rfl);(case hb=>omega);(case hb'=>simp only [maxLen];omega);(case hd=>rfl);(case h1=>first|rfl|assumption);(case hν=>exact aE);intro v15 n15 hg15;obtain ⟨A15,c15,rfl,-,-⟩:=hg15.shape|apply d_store 0;(case hi=>rfl);(case hr=>kernel_rfl);(case hL=>infer_instance);(case hp|hx|hc|hsz|h1=>rfl);(case hb=>exact aM);(case hfit=>first|exact Nat.le_of_ble_eq_true rfl|rfl);(case hov=>(first|((repeat (first|with_reducible exact ov_nil|apply ov_cons|apply ov_there));done)|rfl));(case hu=>repeat first|exact Upd.here _ _|apply Upd.there|apply Upd.app);(case hν'=>exact aE)|fail)
     all_goals (first|apply d_keep 9 (hop:=ReadOp.move ?hop);(case hi=>rfl);(case hr=>kernel_rfl);(case hop=>(apply r_load1;rfl;(apply Cell.own;(case h=>exact aM);rfl)));(case hd=>rfl)|((apply x_exec 9;(case hi=>rfl);(case hr=>kernel_rfl);(case hop=>exact ReadOp.move (r_load1 rfl (Cell.own aM rfl)));(case hd=>rfl);rintro _ G0 _ ⟨rfl,hG0,rfl⟩;subst G0;refine ⟨aE,?_⟩))|((apply d_call 9 (hs:=q) (μ1:=(cb,clO (clZ (.slice A ps.length c) bg lm))::νn) (μ2:=(ob,.cells [.slice O k oc].toArray 22 (0,0))::(nb,.cells [Value.int .i64 0].toArray 3 (0,0))::(xb,.cells [Value.pointer (some ⟨cb,0,none⟩)].toArray 46 (0,0))::νo);(case hi=>rfl);(case hr=>kernel_rfl);(case ha=>rfl);(case hp=>exact aV);(case hd=>rfl);(case hν'=>exact aE);rintro r G1 _ - ⟨rfl,hr⟩;obtain ⟨C1,cc1,A1,c1,A1',c1',rfl,hC1,hp1,hss1⟩:=id hr;rw [ha]))|apply d_buildSlice 9;(case hi=>rfl);(case hr=>kernel_rfl);(case hT=>infer_instance);(case hL=>infer_instance);(case hz|hl=>rfl);(case hv=>(simp only [List.map_cons,List.map_nil];repeat (first|with_reducible exact evs_nil|apply evs_cons;(case h1=>rfl))));(case hp=>(first|with_reducible exact pk_nil|apply pk_cons;(case hc|hs=>rfl);(case h=>(first|with_reducible exact pk_nil|apply pk_cons;(case hc|hs=>rfl);(case h=>(first|with_reducible exact pk_nil|apply pk_cons;(case hc|hs=>rfl);(case h=>(first|with_reducible exact pk_nil|apply pk_cons;(case hc|hs=>rfl);(case h=>(first|with_reducible exact pk_nil|apply pk_cons;(case hc|hs=>rfl);(case h=>(first|with_reducible exact pk_nil|apply pk_cons;(case hc|hs=>rfl);(case h=>(first|with_reducible exact pk_nil|apply pk_cons;(case hc|hs=>rfl);(case h=>(first|with_reducible exact pk_nil|apply pk_cons;(case hc|hs=>rfl);(case h=>(with_reducible exact pk_nil));(case he=>(first|((repeat (first|with_reducible exact ap_nil|apply ap_cons));done)|rfl))|rfl));(case he=>(first|((repeat (first|with_reducible exact ap_nil|apply ap_cons));done)|rfl))|rfl));(case he=>(first|((repeat (first|with_reducible exact ap_nil|apply ap_cons));done)|rfl))|rfl));(case he=>(first|((repeat (first|with_reducible exact ap_nil|apply ap_cons));done)|rfl))|rfl));(case he=>(first|((repeat (first|with_reducible exact ap_nil|apply ap_cons));done)|rfl))|rfl));(case he=>(first|((repeat (first|with_reducible exact ap_nil|apply ap_cons));done)|rfl))|rfl));(case he=>(first|((repeat (first|with_reducible exact ap_nil|apply ap_cons));done)|rfl))|rfl));(case he=>(first|((repeat (first|with_reducible exact ap_nil|apply ap_cons));done)|rfl))|rfl));(case hb|hd=>rfl);(case hν=>exact aE);intro b14|apply d_append 9 (hg:=hg) (q':=1) (us:=[.int .i64 0]) (μr:=(b14,_)::(ob,.cells [.slice O k oc].toArray 22 (0,0))::(nb,.cells [Value.int .i64 0].toArray 3 (0,0))::(xb,.cells [Value.pointer (some ⟨cb,0,none⟩)].toArray 46 (0,0))::((cb,clO (clZ (.slice A ps.length c) bg lm))::νn)) (hp:=aV) (hsrc:=Src.own (e:=3) (.head _) rfl);(case hi=>rfl);(case hr=>kernel_rfl);(case hT=>infer_instance);(case hL=>infer_instance);(case hzs=>rfl);(case hsz=>omega);(case hs|hx=>rfl);(case hb=>omega);(case hb'=>simp only [maxLen];omega);(case hd=>rfl);(case h1=>first|rfl|assumption);(case hν=>exact aE);intro v15 n15 hg15;obtain ⟨A15,c15,rfl,-,-⟩:=hg15.shape|apply d_store 9;(case hi=>rfl);(case hr=>kernel_rfl);(case hL=>infer_instance);(case hp|hx|hc|hsz|h1=>rfl);(case hb=>exact aM);(case hfit=>first|exact Nat.le_of_ble_eq_true rfl|rfl);(case hov=>(first|((repeat (first|with_reducible exact ov_nil|apply ov_cons|apply ov_there));done)|rfl));(case hu=>repeat first|exact Upd.here _ _|apply Upd.there|apply Upd.app);(case hν'=>exact aE)|fail)
     all_goals (first|apply d_keep 10 (hop:=ReadOp.move ?hop);(case hi=>rfl);(case hr=>kernel_rfl);(case hop=>(apply r_load1;rfl;(apply Cell.own;(case h=>exact aM);rfl)));(case hd=>rfl)|((apply x_exec 10;(case hi=>rfl);(case hr=>kernel_rfl);(case hop=>exact ReadOp.move (r_load1 rfl (Cell.own aM rfl)));(case hd=>rfl);rintro _ G0 _ ⟨rfl,hG0,rfl⟩;subst G0;refine ⟨aE,?_⟩))|((apply d_call 10 (hs:=q) (μ1:=(cb,clO (clZ (.slice A ps.length c) bg lm))::νn) (μ2:=(ob,.cells [.slice O k oc].toArray 22 (0,0))::(nb,.cells [Value.int .i64 0].toArray 3 (0,0))::(xb,.cells [Value.pointer (some ⟨cb,0,none⟩)].toArray 46 (0,0))::νo);(case hi=>rfl);(case hr=>kernel_rfl);(case ha=>rfl);(case hp=>exact aV);(case hd=>rfl);(case hν'=>exact aE);rintro r G1 _ - ⟨rfl,hr⟩;obtain ⟨C1,cc1,A1,c1,A1',c1',rfl,hC1,hp1,hss1⟩:=id hr;rw [ha]))|apply d_buildSlice 10;(case hi=>rfl);(case hr=>kernel_rfl);(case hT=>infer_instance);(case hL=>infer_instance);(case hz|hl=>rfl);(case hv=>(simp only [List.map_cons,List.map_nil];repeat (first|with_reducible exact evs_nil|apply evs_cons;(case h1=>rfl))));(case hp=>(first|with_reducible exact pk_nil|apply pk_cons;(case hc|hs=>rfl);(case h=>(first|with_reducible exact pk_nil|apply pk_cons;(case hc|hs=>rfl);(case h=>(first|with_reducible exact pk_nil|apply pk_cons;(case hc|hs=>rfl);(case h=>(first|with_reducible exact pk_nil|apply pk_cons;(case hc|hs=>rfl);(case h=>(first|with_reducible exact pk_nil|apply pk_cons;(case hc|hs=>rfl);(case h=>(first|with_reducible exact pk_nil|apply pk_cons;(case hc|hs=>rfl);(case h=>(first|with_reducible exact pk_nil|apply pk_cons;(case hc|hs=>rfl);(case h=>(first|with_reducible exact pk_nil|apply pk_cons;(case hc|hs=>rfl);(case h=>(with_reducible exact pk_nil));(case he=>(first|((repeat (first|with_reducible exact ap_nil|apply ap_cons));done)|rfl))|rfl));(case he=>(first|((repeat (first|with_reducible exact ap_nil|apply ap_cons));done)|rfl))|rfl));(case he=>(first|((repeat (first|with_reducible exact ap_nil|apply ap_cons));done)|rfl))|rfl));(case he=>(first|((repeat (first|with_reducible exact ap_nil|apply ap_cons));done)|rfl))|rfl));(case he=>(first|((repeat (first|with_reducible exact ap_nil|apply ap_cons));done)|rfl))|rfl));(case he=>(first|((repeat (first|with_reducible exact ap_nil|apply ap_cons));done)|rfl))|rfl));(case he=>(first|((repeat (first|with_reducible exact ap_nil|apply ap_cons));done)|rfl))|rfl));(case he=>(first|((repeat (first|with_reducible exact ap_nil|apply ap_cons));done)|rfl))|rfl));(case hb|hd=>rfl);(case hν=>exact aE);intro b14|apply d_append 10 (hg:=hg) (q':=1) (us:=[.int .i64 0]) (μr:=(b14,_)::(ob,.cells [.slice O k oc].toArray 22 (0,0))::(nb,.cells [Value.int .i64 0].toArray 3 (0,0))::(xb,.cells [Value.pointer (some ⟨cb,0,none⟩)].toArray 46 (0,0))::((cb,clO (clZ (.slice A ps.length c) bg lm))::νn)) (hp:=aV) (hsrc:=Src.own (e:=3) (.head _) rfl);(case hi=>rfl);(case hr=>kernel_rfl);(case hT=>infer_instance);(case hL=>infer_instance);(case hzs=>rfl);(case hsz=>omega);(case hs|hx=>rfl);(case hb=>omega);(case hb'=>simp only [maxLen];omega);(case hd=>rfl);(case h1=>first|rfl|assumption);(case hν=>exact aE);intro v15 n15 hg15;obtain ⟨A15,c15,rfl,-,-⟩:=hg15.shape|apply d_store 10;(case hi=>rfl);(case hr=>kernel_rfl);(case hL=>infer_instance);(case hp|hx|hc|hsz|h1=>rfl);(case hb=>exact aM);(case hfit=>first|exact Nat.le_of_ble_eq_true rfl|rfl);(case hov=>(first|((repeat (first|with_reducible exact ov_nil|apply ov_cons|apply ov_there));done)|rfl));(case hu=>repeat first|exact Upd.here _ _|apply Upd.there|apply Upd.app);(case hν'=>exact aE)|fail)
     all_goals refine Dd ?_
    rotate_right
    focus
     first|apply x_exec 0;(case hi=>rfl);(case hop=>exact ReadOp.move (r_load1 rfl (Cell.own aM rfl)));(case hd=>rfl);rintro _ G0 _ ⟨rfl,hG0,rfl⟩;subst G0;refine ⟨aE,?_⟩|apply x_call 0 (hs:=q) (μ1:=(cb,clO (clZ (.slice A ps.length c) bg lm))::νn) (μ2:=(ob,.cells [.slice O k oc].toArray 22 (0,0))::(nb,.cells [Value.int .i64 0].toArray 3 (0,0))::(xb,.cells [Value.pointer (some ⟨cb,0,none⟩)].toArray 46 (0,0))::νo);(case hi|ha=>rfl);(case hp=>exact aV);(case hd=>rfl);(case hν'=>exact aE);rintro r G1 _ - ⟨rfl,hr⟩;obtain ⟨C1,cc1,A1,c1,A1',c1',rfl,hC1,hp1,hss1⟩:=id hr;rw [ha]|apply x_buildSlice 0;(case hi=>rfl);(case hT=>infer_instance);(case hL=>infer_instance);(case hz|hl=>rfl);(case hv=>(simp only [List.map_cons,List.map_nil];repeat (first|with_reducible exact evs_nil|apply evs_cons;(case h1=>rfl))));(case hp=>(first|with_reducible exact pk_nil|apply pk_cons;(case hc|hs=>rfl);(case h=>(first|with_reducible exact pk_nil|apply pk_cons;(case hc|hs=>rfl);(case h=>(first|with_reducible exact pk_nil|apply pk_cons;(case hc|hs=>rfl);(case h=>(first|with_reducible exact pk_nil|apply pk_cons;(case hc|hs=>rfl);(case h=>(first|with_reducible exact pk_nil|apply pk_cons;(case hc|hs=>rfl);(case h=>(first|with_reducible exact pk_nil|apply pk_cons;(case hc|hs=>rfl);(case h=>(first|with_reducible exact pk_nil|apply pk_cons;(case hc|hs=>rfl);(case h=>(first|with_reducible exact pk_nil|apply pk_cons;(case hc|hs=>rfl);(case h=>(with_reducible exact pk_nil));(case he=>(first|((repeat (first|with_reducible exact ap_nil|apply ap_cons));done)|rfl))|rfl));(case he=>(first|((repeat (first|with_reducible exact ap_nil|apply ap_cons));done)|rfl))|rfl));(case he=>(first|((repeat (first|with_reducible exact ap_nil|apply ap_cons));done)|rfl))|rfl));(case he=>(first|((repeat (first|with_reducible exact ap_nil|apply ap_cons));done)|rfl))|rfl));(case he=>(first|((repeat (first|with_reducible exact ap_nil|apply ap_cons));done)|rfl))|rfl));(case he=>(first|((repeat (first|with_reducible exact ap_nil|apply ap_cons));done)|rfl))|rfl));(case he=>(first|((repeat (first|with_reducible exact ap_nil|apply ap_cons));done)|rfl))|rfl));(case he=>(first|((repeat (first|with_reducible exact ap_nil|apply ap_cons));done)|rfl))|rfl));(case hb|hd=>rfl);(case hν=>intro e he;first|exact he|(cases he;done)|(simp at he;simp [he];done)|(simp only [List.mem_cons,List.not_mem_nil,or_false] at he;rcases he with rfl|rfl<;>simp;done)|(simp only [List.mem_cons,List.not_mem_nil,or_false] at he;rcases he with rfl|rfl|rfl<;>simp;done)|(simp at he ⊢;try omega));intro b14|apply x_append 0 (hg:=hg) (q':=1) (us:=[.int .i64 0]) (μr:=(b14,_)::(ob,.cells [.slice O k oc].toArray 22 (0,0))::(nb,.cells [Value.int .i64 0].toArray 3 (0,0))::(xb,.cells [Value.pointer (some ⟨cb,0,none⟩)].toArray 46 (0,0))::((cb,clO (clZ (.slice A ps.length c) bg lm))::νn)) (hp:=aV) (hsrc:=Src.own (e:=3) (.head _) rfl);(case hi=>rfl);(case hT=>infer_instance);(case hL=>infer_instance);(case hzs=>rfl);(case hsz=>omega);(case hs|hx=>rfl);(case hb=>omega);(case hb'=>simp only [maxLen];omega);(case hd=>rfl);(case h1=>first|rfl|assumption);(case hν=>intro e he;first|exact he|(cases he;done)|(simp at he;simp [he];done)|(simp only [List.mem_cons,List.not_mem_nil,or_false] at he;rcases he with rfl|rfl<;>simp;done)|(simp only [List.mem_cons,List.not_mem_nil,or_false] at he;rcases he with rfl|rfl|rfl<;>simp;done)|(simp at he ⊢;try omega));intro v15 n15 hg15;obtain ⟨A15,c15,rfl,-,-⟩:=hg15.shape|fail
     all_goals (first|apply d_keep 8 (hop:=ReadOp.move ?hop);(case hi=>rfl);(case hr=>kernel_rfl);(case hop=>(apply r_load1;rfl;(apply Cell.own;(case h=>exact aM);rfl)));(case hd=>rfl)|((apply x_exec 8;(case hi=>rfl);(case hr=>kernel_rfl);(case hop=>exact ReadOp.move (r_load1 rfl (Cell.own aM rfl)));(case hd=>rfl);rintro _ G0 _ ⟨rfl,hG0,rfl⟩;subst G0;refine ⟨aE,?_⟩))|((apply d_call 8 (hs:=q) (μ1:=(cb,clO (clZ (.slice A ps.length c) bg lm))::νn) (μ2:=(ob,.cells [.slice O k oc].toArray 22 (0,0))::(nb,.cells [Value.int .i64 0].toArray 3 (0,0))::(xb,.cells [Value.pointer (some ⟨cb,0,none⟩)].toArray 46 (0,0))::νo);(case hi=>rfl);(case hr=>kernel_rfl);(case ha=>rfl);(case hp=>exact aV);(case hd=>rfl);(case hν'=>exact aE);rintro r G1 _ - ⟨rfl,hr⟩;obtain ⟨C1,cc1,A1,c1,A1',c1',rfl,hC1,hp1,hss1⟩:=id hr;rw [ha]))|apply d_buildSlice 8;(case hi=>rfl);(case hr=>kernel_rfl);(case hT=>infer_instance);(case hL=>infer_instance);(case hz|hl=>rfl);(case hv=>(simp only [List.map_cons,List.map_nil];repeat (first|with_reducible exact evs_nil|apply evs_cons;(case h1=>rfl))));(case hp=>(first|with_reducible exact pk_nil|apply pk_cons;(case hc|hs=>rfl);(case h=>(first|with_reducible exact pk_nil|apply pk_cons;(case hc|hs=>rfl);(case h=>(first|with_reducible exact pk_nil|apply pk_cons;(case hc|hs=>rfl);(case h=>(first|with_reducible exact pk_nil|apply pk_cons;(case hc|hs=>rfl);(case h=>(first|with_reducible exact pk_nil|apply pk_cons;(case hc|hs=>rfl);(case h=>(first|with_reducible exact pk_nil|apply pk_cons;(case hc|hs=>rfl);(case h=>(first|with_reducible exact pk_nil|apply pk_cons;(case hc|hs=>rfl);(case h=>(first|with_reducible exact pk_nil|apply pk_cons;(case hc|hs=>rfl);(case h=>(with_reducible exact pk_nil));(case he=>(first|((repeat (first|with_reducible exact ap_nil|apply ap_cons));done)|rfl))|rfl));(case he=>(first|((repeat (first|with_reducible exact ap_nil|apply ap_cons));done)|rfl))|rfl));(case he=>(first|((repeat (first|with_reducible exact ap_nil|apply ap_cons));done)|rfl))|rfl));(case he=>(first|((repeat (first|with_reducible exact ap_nil|apply ap_cons));done)|rfl))|rfl));(case he=>(first|((repeat (first|with_reducible exact ap_nil|apply ap_cons));done)|rfl))|rfl));(case he=>(first|((repeat (first|with_reducible exact ap_nil|apply ap_cons));done)|rfl))|rfl));(case he=>(first|((repeat (first|with_reducible exact ap_nil|apply ap_cons));done)|rfl))|rfl));(case he=>(first|((repeat (first|with_reducible exact ap_nil|apply ap_cons));done)|rfl))|rfl));(case hb|hd=>rfl);(case hν=>exact aE);intro b14|apply d_append 8 (hg:=hg) (q':=1) (us:=[.int .i64 0]) (μr:=(b14,_)::(ob,.cells [.slice O k oc].toArray 22 (0,0))::(nb,.cells [Value.int .i64 0].toArray 3 (0,0))::(xb,.cells [Value.pointer (some ⟨cb,0,none⟩)].toArray 46 (0,0))::((cb,clO (clZ (.slice A ps.length c) bg lm))::νn)) (hp:=aV) (hsrc:=Src.own (e:=3) (.head _) rfl);(case hi=>rfl);(case hr=>kernel_rfl);(case hT=>infer_instance);(case hL=>infer_instance);(case hzs=>rfl);(case hsz=>omega);(case hs|hx=>rfl);(case hb=>omega);(case hb'=>simp only [maxLen];omega);(case hd=>rfl);(case h1=>first|rfl|assumption);(case hν=>exact aE);intro v15 n15 hg15;obtain ⟨A15,c15,rfl,-,-⟩:=hg15.shape|apply d_store 8;(case hi=>rfl);(case hr=>kernel_rfl);(case hL=>infer_instance);(case hp|hx|hc|hsz|h1=>rfl);(case hb=>exact aM);(case hfit=>first|exact Nat.le_of_ble_eq_true rfl|rfl);(case hov=>(first|((repeat (first|with_reducible exact ov_nil|apply ov_cons|apply ov_there));done)|rfl));(case hu=>repeat first|exact Upd.here _ _|apply Upd.there|apply Upd.app);(case hν'=>exact aE)|fail)
     all_goals (first|apply d_keep 9 (hop:=ReadOp.move ?hop);(case hi=>rfl);(case hr=>kernel_rfl);(case hop=>(apply r_load1;rfl;(apply Cell.own;(case h=>exact aM);rfl)));(case hd=>rfl)|((apply x_exec 9;(case hi=>rfl);(case hr=>kernel_rfl);(case hop=>exact ReadOp.move (r_load1 rfl (Cell.own aM rfl)));(case hd=>rfl);rintro _ G0 _ ⟨rfl,hG0,rfl⟩;subst G0;refine ⟨aE,?_⟩))|((apply d_call 9 (hs:=q) (μ1:=(cb,clO (clZ (.slice A ps.length c) bg lm))::νn) (μ2:=(ob,.cells [.slice O k oc].toArray 22 (0,0))::(nb,.cells [Value.int .i64 0].toArray 3 (0,0))::(xb,.cells [Value.pointer (some ⟨cb,0,none⟩)].toArray 46 (0,0))::νo);(case hi=>rfl);(case hr=>kernel_rfl);(case ha=>rfl);(case hp=>exact aV);(case hd=>rfl);(case hν'=>exact aE);rintro r G1 _ - ⟨rfl,hr⟩;obtain ⟨C1,cc1,A1,c1,A1',c1',rfl,hC1,hp1,hss1⟩:=id hr;rw [ha]))|apply d_buildSlice 9;(case hi=>rfl);(case hr=>kernel_rfl);(case hT=>infer_instance);(case hL=>infer_instance);(case hz|hl=>rfl);(case hv=>(simp only [List.map_cons,List.map_nil];repeat (first|with_reducible exact evs_nil|apply evs_cons;(case h1=>rfl))));(case hp=>(first|with_reducible exact pk_nil|apply pk_cons;(case hc|hs=>rfl);(case h=>(first|with_reducible exact pk_nil|apply pk_cons;(case hc|hs=>rfl);(case h=>(first|with_reducible exact pk_nil|apply pk_cons;(case hc|hs=>rfl);(case h=>(first|with_reducible exact pk_nil|apply pk_cons;(case hc|hs=>rfl);(case h=>(first|with_reducible exact pk_nil|apply pk_cons;(case hc|hs=>rfl);(case h=>(first|with_reducible exact pk_nil|apply pk_cons;(case hc|hs=>rfl);(case h=>(first|with_reducible exact pk_nil|apply pk_cons;(case hc|hs=>rfl);(case h=>(first|with_reducible exact pk_nil|apply pk_cons;(case hc|hs=>rfl);(case h=>(with_reducible exact pk_nil));(case he=>(first|((repeat (first|with_reducible exact ap_nil|apply ap_cons));done)|rfl))|rfl));(case he=>(first|((repeat (first|with_reducible exact ap_nil|apply ap_cons));done)|rfl))|rfl));(case he=>(first|((repeat (first|with_reducible exact ap_nil|apply ap_cons));done)|rfl))|rfl));(case he=>(first|((repeat (first|with_reducible exact ap_nil|apply ap_cons));done)|rfl))|rfl));(case he=>(first|((repeat (first|with_reducible exact ap_nil|apply ap_cons));done)|rfl))|rfl));(case he=>(first|((repeat (first|with_reducible exact ap_nil|apply ap_cons));done)|rfl))|rfl));(case he=>(first|((repeat (first|with_reducible exact ap_nil|apply ap_cons));done)|rfl))|rfl));(case he=>(first|((repeat (first|with_reducible exact ap_nil|apply ap_cons));done)|rfl))|rfl));(case hb|hd=>rfl);(case hν=>exact aE);intro b14|apply d_append 9 (hg:=hg) (q':=1) (us:=[.int .i64 0]) (μr:=(b14,_)::(ob,.cells [.slice O k oc].toArray 22 (0,0))::(nb,.cells [Value.int .i64 0].toArray 3 (0,0))::(xb,.cells [Value.pointer (some ⟨cb,0,none⟩)].toArray 46 (0,0))::((cb,clO (clZ (.slice A ps.length c) bg lm))::νn)) (hp:=aV) (hsrc:=Src.own (e:=3) (.head _) rfl);(case hi=>rfl);(case hr=>kernel_rfl);(case hT=>infer_instance);(case hL=>infer_instance);(case hzs=>rfl);(case hsz=>omega);(case hs|hx=>rfl);(case hb=>omega);(case hb'=>simp only [maxLen];omega);(case hd=>rfl);(case h1=>first|rfl|assumption);(case hν=>exact aE);intro v15 n15 hg15;obtain ⟨A15,c15,rfl,-,-⟩:=hg15.shape|apply d_store 9;(case hi=>rfl);(case hr=>kernel_rfl);(case hL=>infer_instance);(case hp|hx|hc|hsz|h1=>rfl);(case hb=>exact aM);(case hfit=>first|exact Nat.le_of_ble_eq_true rfl|rfl);(case hov=>(first|((repeat (first|with_reducible exact ov_nil|apply ov_cons|apply ov_there));done)|rfl));(case hu=>repeat first|exact Upd.here _ _|apply Upd.there|apply Upd.app);(case hν'=>exact aE)|fail)
     all_goals (first|apply d_keep 10 (hop:=ReadOp.move ?hop);(case hi=>rfl);(case hr=>kernel_rfl);(case hop=>(apply r_load1;rfl;(apply Cell.own;(case h=>exact aM);rfl)));(case hd=>rfl)|((apply x_exec 10;(case hi=>rfl);(case hr=>kernel_rfl);(case hop=>exact ReadOp.move (r_load1 rfl (Cell.own aM rfl)));(case hd=>rfl);rintro _ G0 _ ⟨rfl,hG0,rfl⟩;subst G0;refine ⟨aE,?_⟩))|((apply d_call 10 (hs:=q) (μ1:=(cb,clO (clZ (.slice A ps.length c) bg lm))::νn) (μ2:=(ob,.cells [.slice O k oc].toArray 22 (0,0))::(nb,.cells [Value.int .i64 0].toArray 3 (0,0))::(xb,.cells [Value.pointer (some ⟨cb,0,none⟩)].toArray 46 (0,0))::νo);(case hi=>rfl);(case hr=>kernel_rfl);(case ha=>rfl);(case hp=>exact aV);(case hd=>rfl);(case hν'=>exact aE);rintro r G1 _ - ⟨rfl,hr⟩;obtain ⟨C1,cc1,A1,c1,A1',c1',rfl,hC1,hp1,hss1⟩:=id hr;rw [ha]))|apply d_buildSlice 10;(case hi=>rfl);(case hr=>kernel_rfl);(case hT=>infer_instance);(case hL=>infer_instance);(case hz|hl=>rfl);(case hv=>(simp only [List.map_cons,List.map_nil];repeat (first|with_reducible exact evs_nil|apply evs_cons;(case h1=>rfl))));(case hp=>(first|with_reducible exact pk_nil|apply pk_cons;(case hc|hs=>rfl);(case h=>(first|with_reducible exact pk_nil|apply pk_cons;(case hc|hs=>rfl);(case h=>(first|with_reducible exact pk_nil|apply pk_cons;(case hc|hs=>rfl);(case h=>(first|with_reducible exact pk_nil|apply pk_cons;(case hc|hs=>rfl);(case h=>(first|with_reducible exact pk_nil|apply pk_cons;(case hc|hs=>rfl);(case h=>(first|with_reducible exact pk_nil|apply pk_cons;(case hc|hs=>rfl);(case h=>(first|with_reducible exact pk_nil|apply pk_cons;(case hc|hs=>rfl);(case h=>(first|with_reducible exact pk_nil|apply pk_cons;(case hc|hs=>rfl);(case h=>(with_reducible exact pk_nil));(case he=>(first|((repeat (first|with_reducible exact ap_nil|apply ap_cons));done)|rfl))|rfl));(case he=>(first|((repeat (first|with_reducible exact ap_nil|apply ap_cons));done)|rfl))|rfl));(case he=>(first|((repeat (first|with_reducible exact ap_nil|apply ap_cons));done)|rfl))|rfl));(case he=>(first|((repeat (first|with_reducible exact ap_nil|apply ap_cons));done)|rfl))|rfl));(case he=>(first|((repeat (first|with_reducible exact ap_nil|apply ap_cons));done)|rfl))|rfl));(case he=>(first|((repeat (first|with_reducible exact ap_nil|apply ap_cons));done)|rfl))|rfl));(case he=>(first|((repeat (first|with_reducible exact ap_nil|apply ap_cons));done)|rfl))|rfl));(case he=>(first|((repeat (first|with_reducible exact ap_nil|apply ap_cons));done)|rfl))|rfl));(case hb|hd=>rfl);(case hν=>exact aE);intro b14|apply d_append 10 (hg:=hg) (q':=1) (us:=[.int .i64 0]) (μr:=(b14,_)::(ob,.cells [.slice O k oc].toArray 22 (0,0))::(nb,.cells [Value.int .i64 0].toArray 3 (0,0))::(xb,.cells [Value.pointer (some ⟨cb,0,none⟩)].toArray 46 (0,0))::((cb,clO (clZ (.slice A ps.length c) bg lm))::νn)) (hp:=aV) (hsrc:=Src.own (e:=3) (.head _) rfl);(case hi=>rfl);(case hr=>kernel_rfl);(case hT=>infer_instance);(case hL=>infer_instance);(case hzs=>rfl);(case hsz=>omega);(case hs|hx=>rfl);(case hb=>omega);(case hb'=>simp only [maxLen];omega);(case hd=>rfl);(case h1=>first|rfl|assumption);(case hν=>exact aE);intro v15 n15 hg15;obtain ⟨A15,c15,rfl,-,-⟩:=hg15.shape|apply d_store 10;(case hi=>rfl);(case hr=>kernel_rfl);(case hL=>infer_instance);(case hp|hx|hc|hsz|h1=>rfl);(case hb=>exact aM);(case hfit=>first|exact Nat.le_of_ble_eq_true rfl|rfl);(case hov=>(first|((repeat (first|with_reducible exact ov_nil|apply ov_cons|apply ov_there));done)|rfl));(case hu=>repeat first|exact Upd.here _ _|apply Upd.there|apply Upd.app);(case hν'=>exact aE)|fail)
     all_goals refine Dd ?_
  rotate_right
  focus
   first|apply x_exec 0;(case hi=>rfl);(case hop=>exact ReadOp.move (r_load1 rfl (Cell.own aM rfl)));(case hd=>rfl);rintro _ G0 _ ⟨rfl,hG0,rfl⟩;subst G0;refine ⟨aE,?_⟩|apply x_call 0 (hs:=q) (μ1:=(cb,clO (clZ (.slice A ps.length c) bg lm))::νn) (μ2:=(ob,.cells [.slice O k oc].toArray 22 (0,0))::(nb,.cells [Value.int .i64 0].toArray 3 (0,0))::(xb,.cells [Value.pointer (some ⟨cb,0,none⟩)].toArray 46 (0,0))::νo);(case hi|ha=>rfl);(case hp=>exact aV);(case hd=>rfl);(case hν'=>exact aE);rintro r G1 _ - ⟨rfl,hr⟩;obtain ⟨C1,cc1,A1,c1,A1',c1',rfl,hC1,hp1,hss1⟩:=id hr;rw [ha]|apply x_buildSlice 0;(case hi=>rfl);(case hT=>infer_instance);(case hL=>infer_instance);(case hz|hl=>rfl);(case hv=>(simp only [List.map_cons,List.map_nil];repeat (first|with_reducible exact evs_nil|apply evs_cons;(case h1=>rfl))));(case hp=>(first|with_reducible exact pk_nil|apply pk_cons;(case hc|hs=>rfl);(case h=>(first|with_reducible exact pk_nil|apply pk_cons;(case hc|hs=>rfl);(case h=>(first|with_reducible exact pk_nil|apply pk_cons;(case hc|hs=>rfl);(case h=>(first|with_reducible exact pk_nil|apply pk_cons;(case hc|hs=>rfl);(case h=>(first|with_reducible exact pk_nil|apply pk_cons;(case hc|hs=>rfl);(case h=>(first|with_reducible exact pk_nil|apply pk_cons;(case hc|hs=>rfl);(case h=>(first|with_reducible exact pk_nil|apply pk_cons;(case hc|hs=>rfl);(case h=>(first|with_reducible exact pk_nil|apply pk_cons;(case hc|hs=>rfl);(case h=>(with_reducible exact pk_nil));(case he=>(first|((repeat (first|with_reducible exact ap_nil|apply ap_cons));done)|rfl))|rfl));(case he=>(first|((repeat (first|with_reducible exact ap_nil|apply ap_cons));done)|rfl))|rfl));(case he=>(first|((repeat (first|with_reducible exact ap_nil|apply ap_cons));done)|rfl))|rfl));(case he=>(first|((repeat (first|with_reducible exact ap_nil|apply ap_cons));done)|rfl))|rfl));(case he=>(first|((repeat (first|with_reducible exact ap_nil|apply ap_cons));done)|rfl))|rfl));(case he=>(first|((repeat (first|with_reducible exact ap_nil|apply ap_cons));done)|rfl))|rfl));(case he=>(first|((repeat (first|with_reducible exact ap_nil|apply ap_cons));done)|rfl))|rfl));(case he=>(first|((repeat (first|with_reducible exact ap_nil|apply ap_cons));done)|rfl))|rfl));(case hb|hd=>rfl);(case hν=>intro e he;first|exact he|(cases he;done)|(simp at he;simp [he];done)|(simp only [List.mem_cons,List.not_mem_nil,or_false] at he;rcases he with rfl|rfl<;>simp;done)|(simp only [List.mem_cons,List.not_mem_nil,or_false] at he;rcases he with rfl|rfl|rfl<;>simp;done)|(simp at he ⊢;try omega));intro b14|apply x_append 0 (hg:=hg) (q':=1) (us:=[.int .i64 0]) (μr:=(b14,_)::(ob,.cells [.slice O k oc].toArray 22 (0,0))::(nb,.cells [Value.int .i64 0].toArray 3 (0,0))::(xb,.cells [Value.pointer (some ⟨cb,0,none⟩)].toArray 46 (0,0))::((cb,clO (clZ (.slice A ps.length c) bg lm))::νn)) (hp:=aV) (hsrc:=Src.own (e:=3) (.head _) rfl);(case hi=>rfl);(case hT=>infer_instance);(case hL=>infer_instance);(case hzs=>rfl);(case hsz=>omega);(case hs|hx=>rfl);(case hb=>omega);(case hb'=>simp only [maxLen];omega);(case hd=>rfl);(case h1=>first|rfl|assumption);(case hν=>intro e he;first|exact he|(cases he;done)|(simp at he;simp [he];done)|(simp only [List.mem_cons,List.not_mem_nil,or_false] at he;rcases he with rfl|rfl<;>simp;done)|(simp only [List.mem_cons,List.not_mem_nil,or_false] at he;rcases he with rfl|rfl|rfl<;>simp;done)|(simp at he ⊢;try omega));intro v15 n15 hg15;obtain ⟨A15,c15,rfl,-,-⟩:=hg15.shape|fail
   all_goals (first|apply d_keep 4 (hop:=ReadOp.move ?hop);(case hi=>rfl);(case hr=>kernel_rfl);(case hop=>(apply r_load1;rfl;(apply Cell.own;(case h=>exact aM);rfl)));(case hd=>rfl)|((apply x_exec 4;(case hi=>rfl);(case hr=>kernel_rfl);(case hop=>exact ReadOp.move (r_load1 rfl (Cell.own aM rfl)));(case hd=>rfl);rintro _ G0 _ ⟨rfl,hG0,rfl⟩;subst G0;refine ⟨aE,?_⟩))|((apply d_call 4 (hs:=q) (μ1:=(cb,clO (clZ (.slice A ps.length c) bg lm))::νn) (μ2:=(ob,.cells [.slice O k oc].toArray 22 (0,0))::(nb,.cells [Value.int .i64 0].toArray 3 (0,0))::(xb,.cells [Value.pointer (some ⟨cb,0,none⟩)].toArray 46 (0,0))::νo);(case hi=>rfl);(case hr=>kernel_rfl);(case ha=>rfl);(case hp=>exact aV);(case hd=>rfl);(case hν'=>exact aE);rintro r G1 _ - ⟨rfl,hr⟩;obtain ⟨C1,cc1,A1,c1,A1',c1',rfl,hC1,hp1,hss1⟩:=id hr;rw [ha]))|apply d_buildSlice 4;(case hi=>rfl);(case hr=>kernel_rfl);(case hT=>infer_instance);(case hL=>infer_instance);(case hz|hl=>rfl);(case hv=>(simp only [List.map_cons,List.map_nil];repeat (first|with_reducible exact evs_nil|apply evs_cons;(case h1=>rfl))));(case hp=>(first|with_reducible exact pk_nil|apply pk_cons;(case hc|hs=>rfl);(case h=>(first|with_reducible exact pk_nil|apply pk_cons;(case hc|hs=>rfl);(case h=>(first|with_reducible exact pk_nil|apply pk_cons;(case hc|hs=>rfl);(case h=>(first|with_reducible exact pk_nil|apply pk_cons;(case hc|hs=>rfl);(case h=>(first|with_reducible exact pk_nil|apply pk_cons;(case hc|hs=>rfl);(case h=>(first|with_reducible exact pk_nil|apply pk_cons;(case hc|hs=>rfl);(case h=>(first|with_reducible exact pk_nil|apply pk_cons;(case hc|hs=>rfl);(case h=>(first|with_reducible exact pk_nil|apply pk_cons;(case hc|hs=>rfl);(case h=>(with_reducible exact pk_nil));(case he=>(first|((repeat (first|with_reducible exact ap_nil|apply ap_cons));done)|rfl))|rfl));(case he=>(first|((repeat (first|with_reducible exact ap_nil|apply ap_cons));done)|rfl))|rfl));(case he=>(first|((repeat (first|with_reducible exact ap_nil|apply ap_cons));done)|rfl))|rfl));(case he=>(first|((repeat (first|with_reducible exact ap_nil|apply ap_cons));done)|rfl))|rfl));(case he=>(first|((repeat (first|with_reducible exact ap_nil|apply ap_cons));done)|rfl))|rfl));(case he=>(first|((repeat (first|with_reducible exact ap_nil|apply ap_cons));done)|rfl))|rfl));(case he=>(first|((repeat (first|with_reducible exact ap_nil|apply ap_cons));done)|rfl))|rfl));(case he=>(first|((repeat (first|with_reducible exact ap_nil|apply ap_cons));done)|rfl))|rfl));(case hb|hd=>rfl);(case hν=>exact aE);intro b14|apply d_append 4 (hg:=hg) (q':=1) (us:=[.int .i64 0]) (μr:=(b14,_)::(ob,.cells [.slice O k oc].toArray 22 (0,0))::(nb,.cells [Value.int .i64 0].toArray 3 (0,0))::(xb,.cells [Value.pointer (some ⟨cb,0,none⟩)].toArray 46 (0,0))::((cb,clO (clZ (.slice A ps.length c) bg lm))::νn)) (hp:=aV) (hsrc:=Src.own (e:=3) (.head _) rfl);(case hi=>rfl);(case hr=>kernel_rfl);(case hT=>infer_instance);(case hL=>infer_instance);(case hzs=>rfl);(case hsz=>omega);(case hs|hx=>rfl);(case hb=>omega);(case hb'=>simp only [maxLen];omega);(case hd=>rfl);(case h1=>first|rfl|assumption);(case hν=>exact aE);intro v15 n15 hg15;obtain ⟨A15,c15,rfl,-,-⟩:=hg15.shape|apply d_store 4;(case hi=>rfl);(case hr=>kernel_rfl);(case hL=>infer_instance);(case hp|hx|hc|hsz|h1=>rfl);(case hb=>exact aM);(case hfit=>first|exact Nat.le_of_ble_eq_true rfl|rfl);(case hov=>(first|((repeat (first|with_reducible exact ov_nil|apply ov_cons|apply ov_there));done)|rfl));(case hu=>repeat first|exact Upd.here _ _|apply Upd.there|apply Upd.app);(case hν'=>exact aE)|fail)
   all_goals refine Dt [5,6,7] ?_
   all_goals (first|apply d_keep 8 (hop:=ReadOp.move ?hop);(case hi=>rfl);(case hr=>kernel_rfl);(case hop=>(apply r_load1;rfl;(apply Cell.own;(case h=>exact aM);rfl)));(case hd=>rfl)|((apply x_exec 8;(case hi=>rfl);(case hr=>kernel_rfl);(case hop=>exact ReadOp.move (r_load1 rfl (Cell.own aM rfl)));(case hd=>rfl);rintro _ G0 _ ⟨rfl,hG0,rfl⟩;subst G0;refine ⟨aE,?_⟩))|((apply d_call 8 (hs:=q) (μ1:=(cb,clO (clZ (.slice A ps.length c) bg lm))::νn) (μ2:=(ob,.cells [.slice O k oc].toArray 22 (0,0))::(nb,.cells [Value.int .i64 0].toArray 3 (0,0))::(xb,.cells [Value.pointer (some ⟨cb,0,none⟩)].toArray 46 (0,0))::νo);(case hi=>rfl);(case hr=>kernel_rfl);(case ha=>rfl);(case hp=>exact aV);(case hd=>rfl);(case hν'=>exact aE);rintro r G1 _ - ⟨rfl,hr⟩;obtain ⟨C1,cc1,A1,c1,A1',c1',rfl,hC1,hp1,hss1⟩:=id hr;rw [ha]))|apply d_buildSlice 8;(case hi=>rfl);(case hr=>kernel_rfl);(case hT=>infer_instance);(case hL=>infer_instance);(case hz|hl=>rfl);(case hv=>(simp only [List.map_cons,List.map_nil];repeat (first|with_reducible exact evs_nil|apply evs_cons;(case h1=>rfl))));(case hp=>(first|with_reducible exact pk_nil|apply pk_cons;(case hc|hs=>rfl);(case h=>(first|with_reducible exact pk_nil|apply pk_cons;(case hc|hs=>rfl);(case h=>(first|with_reducible exact pk_nil|apply pk_cons;(case hc|hs=>rfl);(case h=>(first|with_reducible exact pk_nil|apply pk_cons;(case hc|hs=>rfl);(case h=>(first|with_reducible exact pk_nil|apply pk_cons;(case hc|hs=>rfl);(case h=>(first|with_reducible exact pk_nil|apply pk_cons;(case hc|hs=>rfl);(case h=>(first|with_reducible exact pk_nil|apply pk_cons;(case hc|hs=>rfl);(case h=>(first|with_reducible exact pk_nil|apply pk_cons;(case hc|hs=>rfl);(case h=>(with_reducible exact pk_nil));(case he=>(first|((repeat (first|with_reducible exact ap_nil|apply ap_cons));done)|rfl))|rfl));(case he=>(first|((repeat (first|with_reducible exact ap_nil|apply ap_cons));done)|rfl))|rfl));(case he=>(first|((repeat (first|with_reducible exact ap_nil|apply ap_cons));done)|rfl))|rfl));(case he=>(first|((repeat (first|with_reducible exact ap_nil|apply ap_cons));done)|rfl))|rfl));(case he=>(first|((repeat (first|with_reducible exact ap_nil|apply ap_cons));done)|rfl))|rfl));(case he=>(first|((repeat (first|with_reducible exact ap_nil|apply ap_cons));done)|rfl))|rfl));(case he=>(first|((repeat (first|with_reducible exact ap_nil|apply ap_cons));done)|rfl))|rfl));(case he=>(first|((repeat (first|with_reducible exact ap_nil|apply ap_cons));done)|rfl))|rfl));(case hb|hd=>rfl);(case hν=>exact aE);intro b14|apply d_append 8 (hg:=hg) (q':=1) (us:=[.int .i64 0]) (μr:=(b14,_)::(ob,.cells [.slice O k oc].toArray 22 (0,0))::(nb,.cells [Value.int .i64 0].toArray 3 (0,0))::(xb,.cells [Value.pointer (some ⟨cb,0,none⟩)].toArray 46 (0,0))::((cb,clO (clZ (.slice A ps.length c) bg lm))::νn)) (hp:=aV) (hsrc:=Src.own (e:=3) (.head _) rfl);(case hi=>rfl);(case hr=>kernel_rfl);(case hT=>infer_instance);(case hL=>infer_instance);(case hzs=>rfl);(case hsz=>omega);(case hs|hx=>rfl);(case hb=>omega);(case hb'=>simp only [maxLen];omega);(case hd=>rfl);(case h1=>first|rfl|assumption);(case hν=>exact aE);intro v15 n15 hg15;obtain ⟨A15,c15,rfl,-,-⟩:=hg15.shape|apply d_store 8;(case hi=>rfl);(case hr=>kernel_rfl);(case hL=>infer_instance);(case hp|hx|hc|hsz|h1=>rfl);(case hb=>exact aM);(case hfit=>first|exact Nat.le_of_ble_eq_true rfl|rfl);(case hov=>(first|((repeat (first|with_reducible exact ov_nil|apply ov_cons|apply ov_there));done)|rfl));(case hu=>repeat first|exact Upd.here _ _|apply Upd.there|apply Upd.app);(case hν'=>exact aE)|fail)
   all_goals (first|apply d_keep 9 (hop:=ReadOp.move ?hop);(case hi=>rfl);(case hr=>kernel_rfl);(case hop=>(apply r_load1;rfl;(apply Cell.own;(case h=>exact aM);rfl)));(case hd=>rfl)|((apply x_exec 9;(case hi=>rfl);(case hr=>kernel_rfl);(case hop=>exact ReadOp.move (r_load1 rfl (Cell.own aM rfl)));(case hd=>rfl);rintro _ G0 _ ⟨rfl,hG0,rfl⟩;subst G0;refine ⟨aE,?_⟩))|((apply d_call 9 (hs:=q) (μ1:=(cb,clO (clZ (.slice A ps.length c) bg lm))::νn) (μ2:=(ob,.cells [.slice O k oc].toArray 22 (0,0))::(nb,.cells [Value.int .i64 0].toArray 3 (0,0))::(xb,.cells [Value.pointer (some ⟨cb,0,none⟩)].toArray 46 (0,0))::νo);(case hi=>rfl);(case hr=>kernel_rfl);(case ha=>rfl);(case hp=>exact aV);(case hd=>rfl);(case hν'=>exact aE);rintro r G1 _ - ⟨rfl,hr⟩;obtain ⟨C1,cc1,A1,c1,A1',c1',rfl,hC1,hp1,hss1⟩:=id hr;rw [ha]))|apply d_buildSlice 9;(case hi=>rfl);(case hr=>kernel_rfl);(case hT=>infer_instance);(case hL=>infer_instance);(case hz|hl=>rfl);(case hv=>(simp only [List.map_cons,List.map_nil];repeat (first|with_reducible exact evs_nil|apply evs_cons;(case h1=>rfl))));(case hp=>(first|with_reducible exact pk_nil|apply pk_cons;(case hc|hs=>rfl);(case h=>(first|with_reducible exact pk_nil|apply pk_cons;(case hc|hs=>rfl);(case h=>(first|with_reducible exact pk_nil|apply pk_cons;(case hc|hs=>rfl);(case h=>(first|with_reducible exact pk_nil|apply pk_cons;(case hc|hs=>rfl);(case h=>(first|with_reducible exact pk_nil|apply pk_cons;(case hc|hs=>rfl);(case h=>(first|with_reducible exact pk_nil|apply pk_cons;(case hc|hs=>rfl);(case h=>(first|with_reducible exact pk_nil|apply pk_cons;(case hc|hs=>rfl);(case h=>(first|with_reducible exact pk_nil|apply pk_cons;(case hc|hs=>rfl);(case h=>(with_reducible exact pk_nil));(case he=>(first|((repeat (first|with_reducible exact ap_nil|apply ap_cons));done)|rfl))|rfl));(case he=>(first|((repeat (first|with_reducible exact ap_nil|apply ap_cons));done)|rfl))|rfl));(case he=>(first|((repeat (first|with_reducible exact ap_nil|apply ap_cons));done)|rfl))|rfl));(case he=>(first|((repeat (first|with_reducible exact ap_nil|apply ap_cons));done)|rfl))|rfl));(case he=>(first|((repeat (first|with_reducible exact ap_nil|apply ap_cons));done)|rfl))|rfl));(case he=>(first|((repeat (first|with_reducible exact ap_nil|apply ap_cons));done)|rfl))|rfl));(case he=>(first|((repeat (first|with_reducible exact ap_nil|apply ap_cons));done)|rfl))|rfl));(case he=>(first|((repeat (first|with_reducible exact ap_nil|apply ap_cons));done)|rfl))|rfl));(case hb|hd=>rfl);(case hν=>exact aE);intro b14|apply d_append 9 (hg:=hg) (q':=1) (us:=[.int .i64 0]) (μr:=(b14,_)::(ob,.cells [.slice O k oc].toArray 22 (0,0))::(nb,.cells [Value.int .i64 0].toArray 3 (0,0))::(xb,.cells [Value.pointer (some ⟨cb,0,none⟩)].toArray 46 (0,0))::((cb,clO (clZ (.slice A ps.length c) bg lm))::νn)) (hp:=aV) (hsrc:=Src.own (e:=3) (.head _) rfl);(case hi=>rfl);(case hr=>kernel_rfl);(case hT=>infer_instance);(case hL=>infer_instance);(case hzs=>rfl);(case hsz=>omega);(case hs|hx=>rfl);(case hb=>omega);(case hb'=>simp only [maxLen];omega);(case hd=>rfl);(case h1=>first|rfl|assumption);(case hν=>exact aE);intro v15 n15 hg15;obtain ⟨A15,c15,rfl,-,-⟩:=hg15.shape|apply d_store 9;(case hi=>rfl);(case hr=>kernel_rfl);(case hL=>infer_instance);(case hp|hx|hc|hsz|h1=>rfl);(case hb=>exact aM);(case hfit=>first|exact Nat.le_of_ble_eq_true rfl|rfl);(case hov=>(first|((repeat (first|with_reducible exact ov_nil|apply ov_cons|apply ov_there));done)|rfl));(case hu=>repeat first|exact Upd.here _ _|apply Upd.there|apply Upd.app);(case hν'=>exact aE)|fail)
   all_goals (first|apply d_keep 10 (hop:=ReadOp.move ?hop);(case hi=>rfl);(case hr=>kernel_rfl);(case hop=>(apply r_load1;rfl;(apply Cell.own;(case h=>exact aM);rfl)));(case hd=>rfl)|((apply x_exec 10;(case hi=>rfl);(case hr=>kernel_rfl);(case hop=>exact ReadOp.move (r_load1 rfl (Cell.own aM rfl)));(case hd=>rfl);rintro _ G0 _ ⟨rfl,hG0,rfl⟩;subst G0;refine ⟨aE,?_⟩))|((apply d_call 10 (hs:=q) (μ1:=(cb,clO (clZ (.slice A ps.length c) bg lm))::νn) (μ2:=(ob,.cells [.slice O k oc].toArray 22 (0,0))::(nb,.cells [Value.int .i64 0].toArray 3 (0,0))::(xb,.cells [Value.pointer (some ⟨cb,0,none⟩)].toArray 46 (0,0))::νo);(case hi=>rfl);(case hr=>kernel_rfl);(case ha=>rfl);(case hp=>exact aV);(case hd=>rfl);(case hν'=>exact aE);rintro r G1 _ - ⟨rfl,hr⟩;obtain ⟨C1,cc1,A1,c1,A1',c1',rfl,hC1,hp1,hss1⟩:=id hr;rw [ha]))|apply d_buildSlice 10;(case hi=>rfl);(case hr=>kernel_rfl);(case hT=>infer_instance);(case hL=>infer_instance);(case hz|hl=>rfl);(case hv=>(simp only [List.map_cons,List.map_nil];repeat (first|with_reducible exact evs_nil|apply evs_cons;(case h1=>rfl))));(case hp=>(first|with_reducible exact pk_nil|apply pk_cons;(case hc|hs=>rfl);(case h=>(first|with_reducible exact pk_nil|apply pk_cons;(case hc|hs=>rfl);(case h=>(first|with_reducible exact pk_nil|apply pk_cons;(case hc|hs=>rfl);(case h=>(first|with_reducible exact pk_nil|apply pk_cons;(case hc|hs=>rfl);(case h=>(first|with_reducible exact pk_nil|apply pk_cons;(case hc|hs=>rfl);(case h=>(first|with_reducible exact pk_nil|apply pk_cons;(case hc|hs=>rfl);(case h=>(first|with_reducible exact pk_nil|apply pk_cons;(case hc|hs=>rfl);(case h=>(first|with_reducible exact pk_nil|apply pk_cons;(case hc|hs=>rfl);(case h=>(with_reducible exact pk_nil));(case he=>(first|((repeat (first|with_reducible exact ap_nil|apply ap_cons));done)|rfl))|rfl));(case he=>(first|((repeat (first|with_reducible exact ap_nil|apply ap_cons));done)|rfl))|rfl));(case he=>(first|((repeat (first|with_reducible exact ap_nil|apply ap_cons));done)|rfl))|rfl));(case he=>(first|((repeat (first|with_reducible exact ap_nil|apply ap_cons));done)|rfl))|rfl));(case he=>(first|((repeat (first|with_reducible exact ap_nil|apply ap_cons));done)|rfl))|rfl));(case he=>(first|((repeat (first|with_reducible exact ap_nil|apply ap_cons));done)|rfl))|rfl));(case he=>(first|((repeat (first|with_reducible exact ap_nil|apply ap_cons));done)|rfl))|rfl));(case he=>(first|((repeat (first|with_reducible exact ap_nil|apply ap_cons));done)|rfl))|rfl));(case hb|hd=>rfl);(case hν=>exact aE);intro b14|apply d_append 10 (hg:=hg) (q':=1) (us:=[.int .i64 0]) (μr:=(b14,_)::(ob,.cells [.slice O k oc].toArray 22 (0,0))::(nb,.cells [Value.int .i64 0].toArray 3 (0,0))::(xb,.cells [Value.pointer (some ⟨cb,0,none⟩)].toArray 46 (0,0))::((cb,clO (clZ (.slice A ps.length c) bg lm))::νn)) (hp:=aV) (hsrc:=Src.own (e:=3) (.head _) rfl);(case hi=>rfl);(case hr=>kernel_rfl);(case hT=>infer_instance);(case hL=>infer_instance);(case hzs=>rfl);(case hsz=>omega);(case hs|hx=>rfl);(case hb=>omega);(case hb'=>simp only [maxLen];omega);(case hd=>rfl);(case h1=>first|rfl|assumption);(case hν=>exact aE);intro v15 n15 hg15;obtain ⟨A15,c15,rfl,-,-⟩:=hg15.shape|apply d_store 10;(case hi=>rfl);(case hr=>kernel_rfl);(case hL=>infer_instance);(case hp|hx|hc|hsz|h1=>rfl);(case hb=>exact aM);(case hfit=>first|exact Nat.le_of_ble_eq_true rfl|rfl);(case hov=>(first|((repeat (first|with_reducible exact ov_nil|apply ov_cons|apply ov_there));done)|rfl));(case hu=>repeat first|exact Upd.here _ _|apply Upd.there|apply Upd.app);(case hν'=>exact aE)|fail)
   all_goals refine Dd ?_
 all_goals rw [← zsL_snoc] at hg15
 all_goals refine v_dropP ((ob,.cells [.slice A15 (k+1) c15].toArray 22 (0,0))::(nb,.cells [Value.int .i64 0].toArray 3 (0,0))::(xb,.cells [Value.pointer (some ⟨cb,0,none⟩)].toArray 46 (0,0))::((cb,clO (clZ (.slice A ps.length c) bg lm))::νn)++n15) [(b14,_)] aV ?_
 all_goals repeat' (first|refine Wa ?_|(refine Wc ⟨?_,?_⟩<;>first|exact True.intro|intro h)|refine Wr ?_|(refine Wb ?_;intro b)|fail)
 all_goals exact v_ret _ (outsA1 rfl rfl) (List.Sublist.refl _) ⟨rfl,_,_,_,hg15,rfl⟩
theorem auLag_s {G:GH}{cb bg lm:Nat}{A:Option Addr}{c:Nat}{ps:List Nat}{nodes:Int}{m:Im}{νn:OH}(hp:PtS G (.slice A ps.length c) ps) (hN:NewNds G nodes m ps νn) (hz:StZ m.st) (hc:CoZ m.confs) (ha:m.index=0) (h9:ps.length≤9) :
 Con Tryz.prog 18 #[.pointer (some ⟨cb,0,none⟩)] G ((cb,clO (clZ (.slice A ps.length c) bg lm))::(bg,bagO nilS)::(lm,.map #[] 0)::νn) (fun r G' μ'=>∃ O oc νo,r=.slice O ps.length oc∧μ'=νo++(cb,clO (clZ (.slice A ps.length c) bg lm))::(bg,bagO nilS)::(lm,.map #[] 0)::νn):=by
 have qp:=auPrefix0_s (G:=G) (cb:=cb) (bg:=bg) (lm:=lm) (A:=A) (c:=c) (ps:=ps)
 (refine v_enter Tryz.func18 rfl Tryz.ntmps18 rfl ?_;intro B _)
 repeat' (first|apply v_box (d:=1) (zs:=[.pointer (some ⟨cb,0,none⟩)]);(case hx|hz|hd=>rfl);intro xb|apply v_read;(case hop=>(apply r_load1;rfl;(apply Cell.own;(case h=>exact aM);rfl)));(case hd=>rfl)|apply v_alloc (d:=3);(case hz|hd=>rfl);intro nb|apply v_alloc (d:=4);(case hz|hd=>rfl);intro ob|refine Wa ?_|(refine Wc ⟨?_,?_⟩<;>first|exact True.intro|intro h)|apply v_callK (hs:=qp) (μ2:=(xb,.cells [Value.pointer (some ⟨cb,0,none⟩)].toArray 46 (0,0))::(bg,bagO nilS)::νn);(case ha=>rfl);(case hp=>exact aV);(case hd=>rfl)|refine Wr ?_|(refine Wb ?_;intro b)|fail)
 have qe:=auEach_s (G:=G) (cb:=cb) (A:=A) (c:=c) (L:=List.tail (clZ nilS bg lm)) (ps:=ps) (cf:=45) (capt:=[.pointer (some ⟨ob,0,none⟩),.pointer (some ⟨nb,0,none⟩),.pointer (some ⟨xb,0,none⟩)]) (ν0:=(ob,.cells [Value.slice none 0 0].toArray 22 (0,0))::(nb,.cells [Value.int .i64 0].toArray 3 (0,0))::(xb,.cells [Value.pointer (some ⟨cb,0,none⟩)].toArray 46 (0,0))::((bg,bagO nilS)::(lm,.map #[] 0)::νn)) (J:=fun k G' μ'=>GH.le G G'∧∃ O oc νo,Grow 3 1 (.slice O k oc) k (zsL k) νo∧μ'.Perm (((ob,.cells [.slice O k oc].toArray 22 (0,0))::(nb,.cells [Value.int .i64 0].toArray 3 (0,0))::(xb,.cells [Value.pointer (some ⟨cb,0,none⟩)].toArray 46 (0,0))::((cb,clO (clZ (.slice A ps.length c) bg lm))::νn)++νo)++[(bg,bagO nilS),(lm,.map #[] 0)])) h9 ⟨GH.le_refl _,none,0,[],Grow.nil _ _,aV⟩ (by
  rintro i G' μ' hle hi ⟨-,O,oc,νo,hg,hperm⟩
  have qi:=auLag1_s (xb:=xb) (nb:=nb) (ob:=ob) (cb:=cb) (bg:=bg) (lm:=lm) (hp.mono hle) (hN.imp fun i p ν h=>NewNd.up hle h) hz hc ha (by omega) hg hi h9
  exact Con.monoG (Con.frameG qi hperm) fun v G2 μ2 hle2 h=>by
   obtain ⟨μ1',⟨rfl,O',oc',νo',hg',rfl⟩,rfl⟩:=h
   exact ⟨rfl,GH.le_trans hle hle2,O',oc',νo',hg',List.Perm.refl _⟩)
 refine v_call (μ1:=(cb,clO (clZ (.slice A ps.length c) bg lm))::(ob,.cells [Value.slice none 0 0].toArray 22 (0,0))::(nb,.cells [Value.int .i64 0].toArray 3 (0,0))::(xb,.cells [Value.pointer (some ⟨cb,0,none⟩)].toArray 46 (0,0))::((bg,bagO nilS)::(lm,.map #[] 0)::νn)) (μ2:=[]) rfl qe aV rfl ?_
 rintro _ G1 μ1 - ⟨rfl,-,O,oc,νo,hg,hperm⟩
 rw [List.append_nil]
 refine v_perm (hperm.trans (show List.Perm _ ((ob,.cells [Value.slice O ps.length oc].toArray 22 (0,0))::(nb,.cells [Value.int .i64 0].toArray 3 (0,0))::(xb,.cells [Value.pointer (some ⟨cb,0,none⟩)].toArray 46 (0,0))::(νo++(cb,clO (clZ (.slice A ps.length c) bg lm))::(bg,bagO nilS)::(lm,.map #[] 0)::νn)) from aV)) ?_
 repeat' (first|apply v_read;(case hop=>(apply r_load1;rfl;(apply Cell.own;(case h=>exact aM);rfl)));(case hd=>rfl)|refine Wa ?_|(refine Wc ⟨?_,?_⟩<;>first|exact True.intro|intro h)|refine Wr ?_|(refine Wb ?_;intro b)|fail)
 exact v_ret (νo++(cb,clO (clZ (.slice A ps.length c) bg lm))::(bg,bagO nilS)::(lm,.map #[] 0)::νn) (outsA1 rfl rfl) (.cons _ (.cons _ (.cons _ (List.Sublist.refl _)))) ⟨O,oc,νo,rfl,rfl⟩
end Go.Proofs.YtkofafmiabmobaaGreatDoor
/-
  window's law (layer 30): awake.
-/
namespace Go.Proofs.YtkofafmiabmobaaGreatDoor
open Go.Vx Go.ChangeShapes Go.WideShapes Go.ChangeAt Go.RowKit
end Go.Proofs.YtkofafmiabmobaaGreatDoor
/-
  audit (layer 44): awake.
-/
set_option maxHeartbeats 2000000
namespace Go.Proofs.YtkofafmiabmobaaGreatDoor
open Go.Vx Go.ChangeShapes Go.WideShapes Go.ChangeAt Go.RowKit
abbrev axIm:Im:=⟨0,0,[(1,[1,2])],emp⟩
abbrev add3:Cm:=⟨7,0,0,ByteArray.empty,ByteArray.empty,ByteArray.empty,3⟩
theorem add3_ok:cmdI add3=0:=by
 rw [cmdI_eq]
 unfold cmdE
 simp
theorem axC_ok:ConfOK [(1,[1,2])] :=
 ConfOK.of ⟨by decide,rfl⟩ (by simp) (fun c hc=>by simp at hc;subst hc;exact ⟨memOK_of (by decide) (by decide) (by decide),by decide⟩)
theorem axIm_ok:ImP axIm:=⟨⟨by simp,by simp,by simp,by simp⟩,axC_ok,emp_ok,by simp⟩
abbrev axN:Im:=⟨1,0,[(1,[1,2]),(5,[1,2,3])],emp⟩
theorem ax_app:applyS emp add3=(emp,zA,0):=by
 unfold applyS
 rw [add3_ok]
 simp
theorem ax_next:nextI axIm add3=axN:=by
 unfold nextI confsI
 rw [ax_app,if_pos ⟨.inl rfl,(changeR_zero axC_ok (by decide)).2 (by decide)⟩]
 rfl
theorem axN_ok:ImP axN:=by
 have h:=nextI_ok axIm_ok (by decide) add3_ok
 rw [ax_next] at h
 exact h
theorem ax_aud:audR [1,2] [add3] 5=[1,2,3]:=by
 unfold audR
 rw [if_pos ⟨axC_ok,by decide⟩,show firstI [1,2]=axIm from if_pos axC_ok]
 show (if OpenP axIm 5 then membersI axIm 5 else audL (if cmdI add3=0 then nextI axIm add3 else axIm) 5 [])=_
 rw [if_neg (by unfold OpenP;decide),if_pos add3_ok,ax_next]
 show membersI axN 5=_
 unfold membersI
 rw [if_pos ⟨axN_ok,by unfold OpenP;decide⟩]
 rfl
theorem one_ok:ConfOK [(1,[1])] :=
 ConfOK.of ⟨by decide,rfl⟩ (by simp) (fun c hc=>by simp at hc;subst hc;exact ⟨memOK_of (by decide) (by decide) (by decide),by decide⟩)
theorem newE2:newE 1 2 [1]=0:=by
 unfold newE
 rw [if_neg (by decide),if_neg (by simpa using one_ok),if_neg (by decide)]
theorem first1:firstI [1]=⟨0,0,[(1,[1])],emp⟩:=if_pos one_ok
theorem ptrs_row (ps:List Nat):ptrs ps=rowC (fun p => [Value.pointer (some ⟨p,0,none⟩)]) ps:=by
 unfold ptrs rowC
 induction ps with
 | nil=>rfl
 | cons p ps ih=>simp only [List.map_cons,List.flatten_cons,ih];rfl
theorem ptS_of_grow {ps:List Nat}{A:Option Addr}{c n:Nat}{ν:OH}{G:GH}(hg:Grow 99 1 (.slice A n c) ps.length (ptrs ps) ν) (hG:∀ b o,(b,o)∈ν→G b=some o):n=ps.length∧PtS G (.slice A n c) ps:=by
 rw [ptrs_row] at hg
 have h:=row_of_grow (f:=fun p:Nat => [Value.pointer (some ⟨p,0,none⟩)]) (fun _=>rfl) hg hG
 obtain ⟨A',c',e2,-,-⟩:=id h
 cases e2
 exact ⟨rfl,Sl.le h (GH.le_refl _) fun _ _ hx=>hx⟩
theorem awake44_s {G:GH}(hT:TabsG G):Con Tryz.prog 6 #[] G [] (fun r G' μ'=>r=.bool true∧μ'=[]):=by
 have hz:=emp_ok.small
 (refine v_enter Tryz.func6 rfl Tryz.ntmps6 rfl ?_;intro B _)
 repeat' (first|apply v_buildSlice (d:=4);(case hz|hi=>rfl);(case hv=>(simp only [List.map_cons,List.map_nil];repeat (first|with_reducible exact evs_nil|apply evs_cons;(case h1=>rfl))));(case hp=>(first|with_reducible exact pk_nil|apply pk_cons;(case hc|hs=>rfl);(case h=>(first|with_reducible exact pk_nil|apply pk_cons;(case hc|hs=>rfl);(case h=>(first|with_reducible exact pk_nil|apply pk_cons;(case hc|hs=>rfl);(case h=>(first|with_reducible exact pk_nil|apply pk_cons;(case hc|hs=>rfl);(case h=>(first|with_reducible exact pk_nil|apply pk_cons;(case hc|hs=>rfl);(case h=>(first|with_reducible exact pk_nil|apply pk_cons;(case hc|hs=>rfl);(case h=>(first|with_reducible exact pk_nil|apply pk_cons;(case hc|hs=>rfl);(case h=>(first|with_reducible exact pk_nil|apply pk_cons;(case hc|hs=>rfl);(case h=>(with_reducible exact pk_nil));(case he=>(first|((repeat (first|with_reducible exact ap_nil|apply ap_cons));done)|rfl))|rfl));(case he=>(first|((repeat (first|with_reducible exact ap_nil|apply ap_cons));done)|rfl))|rfl));(case he=>(first|((repeat (first|with_reducible exact ap_nil|apply ap_cons));done)|rfl))|rfl));(case he=>(first|((repeat (first|with_reducible exact ap_nil|apply ap_cons));done)|rfl))|rfl));(case he=>(first|((repeat (first|with_reducible exact ap_nil|apply ap_cons));done)|rfl))|rfl));(case he=>(first|((repeat (first|with_reducible exact ap_nil|apply ap_cons));done)|rfl))|rfl));(case he=>(first|((repeat (first|with_reducible exact ap_nil|apply ap_cons));done)|rfl))|rfl));(case he=>(first|((repeat (first|with_reducible exact ap_nil|apply ap_cons));done)|rfl))|rfl));(case hb|hd=>rfl);intro b4|apply v_buildSlice (d:=6);(case hz|hi=>rfl);(case hv=>(simp only [List.map_cons,List.map_nil];repeat (first|with_reducible exact evs_nil|apply evs_cons;(case h1=>rfl))));(case hp=>(first|with_reducible exact pk_nil|apply pk_cons;(case hc|hs=>rfl);(case h=>(first|with_reducible exact pk_nil|apply pk_cons;(case hc|hs=>rfl);(case h=>(first|with_reducible exact pk_nil|apply pk_cons;(case hc|hs=>rfl);(case h=>(first|with_reducible exact pk_nil|apply pk_cons;(case hc|hs=>rfl);(case h=>(first|with_reducible exact pk_nil|apply pk_cons;(case hc|hs=>rfl);(case h=>(first|with_reducible exact pk_nil|apply pk_cons;(case hc|hs=>rfl);(case h=>(first|with_reducible exact pk_nil|apply pk_cons;(case hc|hs=>rfl);(case h=>(first|with_reducible exact pk_nil|apply pk_cons;(case hc|hs=>rfl);(case h=>(with_reducible exact pk_nil));(case he=>(first|((repeat (first|with_reducible exact ap_nil|apply ap_cons));done)|rfl))|rfl));(case he=>(first|((repeat (first|with_reducible exact ap_nil|apply ap_cons));done)|rfl))|rfl));(case he=>(first|((repeat (first|with_reducible exact ap_nil|apply ap_cons));done)|rfl))|rfl));(case he=>(first|((repeat (first|with_reducible exact ap_nil|apply ap_cons));done)|rfl))|rfl));(case he=>(first|((repeat (first|with_reducible exact ap_nil|apply ap_cons));done)|rfl))|rfl));(case he=>(first|((repeat (first|with_reducible exact ap_nil|apply ap_cons));done)|rfl))|rfl));(case he=>(first|((repeat (first|with_reducible exact ap_nil|apply ap_cons));done)|rfl))|rfl));(case he=>(first|((repeat (first|with_reducible exact ap_nil|apply ap_cons));done)|rfl))|rfl));(case hb|hd=>rfl);intro b6|refine Wa ?_|(refine Wc ⟨?_,?_⟩<;>first|exact True.intro|intro h)|(refine Wb ?_;intro b)|fail)
 refine v_frzP [(b4,.cells [Value.int .i64 1,.int .i64 2].toArray 3 (0,0)),(b6,.cells (rowC Cm.cells [add3]).toArray 41 (0,0))] (r:=[]) aV ?_
 intro G1 hle1 hG1
 have hm:Sl G1 1 (IntR .i64) (.slice (some ⟨b4,0,none⟩) 2 2) [1,2]:=Sl.ofInts (l:=[1,2]) rfl (hG1 b4 _ (List.Mem.head _)) (by decide) (by decide)
 have hl:=madeC (l:=[add3]) (by decide) (hG1 b6 _ (.tail _ (List.Mem.head _)))
 have q1:=audMembers_s (hT.up hle1) hm (by decide) hl ⟨by decide,fun c hc=>by rw [List.mem_singleton] at hc;subst hc;exact ⟨⟨by decide,by decide,by decide,Nat.zero_le _,Nat.zero_le _,Nat.zero_le _,by decide⟩,by decide,by decide⟩⟩ 5 (by decide)
 rw [ax_aud] at q1
 refine cQ rfl q1 ?_
 rintro _ G2 _ hle2 ⟨rfl,hr⟩
 obtain ⟨A2,c2,rfl,-⟩:=id hr.openInt
 repeat' (first|apply v_buildSlice (d:=9);(case hz|hi=>rfl);(case hv=>(simp only [List.map_cons,List.map_nil];repeat (first|with_reducible exact evs_nil|apply evs_cons;(case h1=>rfl))));(case hp=>(first|with_reducible exact pk_nil|apply pk_cons;(case hc|hs=>rfl);(case h=>(first|with_reducible exact pk_nil|apply pk_cons;(case hc|hs=>rfl);(case h=>(first|with_reducible exact pk_nil|apply pk_cons;(case hc|hs=>rfl);(case h=>(first|with_reducible exact pk_nil|apply pk_cons;(case hc|hs=>rfl);(case h=>(first|with_reducible exact pk_nil|apply pk_cons;(case hc|hs=>rfl);(case h=>(first|with_reducible exact pk_nil|apply pk_cons;(case hc|hs=>rfl);(case h=>(first|with_reducible exact pk_nil|apply pk_cons;(case hc|hs=>rfl);(case h=>(first|with_reducible exact pk_nil|apply pk_cons;(case hc|hs=>rfl);(case h=>(with_reducible exact pk_nil));(case he=>(first|((repeat (first|with_reducible exact ap_nil|apply ap_cons));done)|rfl))|rfl));(case he=>(first|((repeat (first|with_reducible exact ap_nil|apply ap_cons));done)|rfl))|rfl));(case he=>(first|((repeat (first|with_reducible exact ap_nil|apply ap_cons));done)|rfl))|rfl));(case he=>(first|((repeat (first|with_reducible exact ap_nil|apply ap_cons));done)|rfl))|rfl));(case he=>(first|((repeat (first|with_reducible exact ap_nil|apply ap_cons));done)|rfl))|rfl));(case he=>(first|((repeat (first|with_reducible exact ap_nil|apply ap_cons));done)|rfl))|rfl));(case he=>(first|((repeat (first|with_reducible exact ap_nil|apply ap_cons));done)|rfl))|rfl));(case he=>(first|((repeat (first|with_reducible exact ap_nil|apply ap_cons));done)|rfl))|rfl));(case hb|hd=>rfl);intro b9|refine Wa ?_|(refine Wc ⟨?_,?_⟩<;>first|exact True.intro|intro h)|(refine Wb ?_;intro b)|fail)
 refine v_frzP [(b9,.cells [Value.int .i64 1].toArray 3 (0,0))] (r:=[]) aV ?_
 intro G3 hle3 hG3
 have hm3:Sl G3 1 (IntR .i64) (.slice (some ⟨b9,0,none⟩) 1 1) [1]:=Sl.ofInts (l:=[1]) rfl (hG3 b9 _ (List.Mem.head _)) (by decide) (by decide)
 have q2:=clusterNew_s hm3 (by decide) 2 (by decide)
 rw [newE2,first1] at q2
 refine cQ rfl q2 ?_
 rintro _ G4 _ hle4 (⟨h,-⟩|⟨-,cb,bg,lm,ps,sl,νs,νn,rfl,hps,hg,hN,rfl⟩)
 ·exact absurd rfl h
 obtain ⟨A4,c4,rfl,-,-⟩:=hg.shape
 refine v_frzP νs (r:=(cb,clO (clZ (.slice A4 ps.length c4) bg lm))::(bg,bagO nilS)::(lm,.map #[] 0)::νn) aV ?_
 intro G5 hle5 hG5
 obtain ⟨-,hp⟩:=ptS_of_grow hg hG5
 have hN5:=hN.imp fun i p ν h=>NewNd.up hle5 h
 have hco:=one_ok.coZ (by decide)
 have q3:=auLag_s (cb:=cb) (bg:=bg) (lm:=lm) hp hN5 hz hco rfl (by omega)
 have q4:=fun G' (h:GH.le G5 G') (sv:Value)=>auCheck_s (sv:=sv) (cb:=cb) (bg:=bg) (lm:=lm) (hp.mono h) (hN5.imp fun i p ν h'=>NewNd.up h h') hz hco rfl (by omega)
 repeat' (first|refine Wa ?_|(refine Wc ⟨?_,?_⟩<;>first|exact True.intro|intro h)|(refine Wb ?_;intro b)|fail)
 refine v_call (μ1:=(cb,clO (clZ (.slice A4 ps.length c4) bg lm))::(bg,bagO nilS)::(lm,.map #[] 0)::νn) (μ2:=[]) rfl q3 aV rfl ?_
 rintro _ G6 _ hle6 ⟨O,oc,νo,rfl,rfl⟩
 rw [List.append_nil]
 repeat' (first|apply v_buildSlice (d:=28);(case hz|hi=>rfl);(case hv=>(simp only [List.map_cons,List.map_nil];repeat (first|with_reducible exact evs_nil|apply evs_cons;(case h1=>rfl))));(case hp=>(first|with_reducible exact pk_nil|apply pk_cons;(case hc|hs=>rfl);(case h=>(first|with_reducible exact pk_nil|apply pk_cons;(case hc|hs=>rfl);(case h=>(first|with_reducible exact pk_nil|apply pk_cons;(case hc|hs=>rfl);(case h=>(first|with_reducible exact pk_nil|apply pk_cons;(case hc|hs=>rfl);(case h=>(first|with_reducible exact pk_nil|apply pk_cons;(case hc|hs=>rfl);(case h=>(first|with_reducible exact pk_nil|apply pk_cons;(case hc|hs=>rfl);(case h=>(first|with_reducible exact pk_nil|apply pk_cons;(case hc|hs=>rfl);(case h=>(first|with_reducible exact pk_nil|apply pk_cons;(case hc|hs=>rfl);(case h=>(with_reducible exact pk_nil));(case he=>(first|((repeat (first|with_reducible exact ap_nil|apply ap_cons));done)|rfl))|rfl));(case he=>(first|((repeat (first|with_reducible exact ap_nil|apply ap_cons));done)|rfl))|rfl));(case he=>(first|((repeat (first|with_reducible exact ap_nil|apply ap_cons));done)|rfl))|rfl));(case he=>(first|((repeat (first|with_reducible exact ap_nil|apply ap_cons));done)|rfl))|rfl));(case he=>(first|((repeat (first|with_reducible exact ap_nil|apply ap_cons));done)|rfl))|rfl));(case he=>(first|((repeat (first|with_reducible exact ap_nil|apply ap_cons));done)|rfl))|rfl));(case he=>(first|((repeat (first|with_reducible exact ap_nil|apply ap_cons));done)|rfl))|rfl));(case he=>(first|((repeat (first|with_reducible exact ap_nil|apply ap_cons));done)|rfl))|rfl));(case hb|hd=>rfl);intro b28|refine Wa ?_|(refine Wc ⟨?_,?_⟩<;>first|exact True.intro|intro h)|(refine Wb ?_;intro b)|fail)
 refine v_call (μ1:=(cb,clO (clZ (.slice A4 ps.length c4) bg lm))::(bg,bagO nilS)::(lm,.map #[] 0)::νn) (μ2:=(b28,_)::νo) rfl (q4 G6 hle6 _) aV rfl ?_
 rintro _ G7 _ hle7 ⟨rfl,rfl⟩
 repeat' (first|refine Wa ?_|(refine Wc ⟨?_,?_⟩<;>first|exact True.intro|intro h)|(refine Wb ?_;intro b)|fail)
 refine v_drop (List.nil_sublist _) ?_
 refine Vr ?_
 exact ⟨rfl,rfl⟩
end Go.Proofs.YtkofafmiabmobaaGreatDoor
/-
  A state, a command, commands that are arguments; the two tables. (As argR.vx, of another seat.)
-/
namespace Go.Proofs.YtkofafmiabmobaaGreatDoor
open Go.Vx Go.ChangeShapes Go.WideShapes Go.ChangeAt Go.RowKit
def CmR (c:Cm) (cs:List Value):Prop:=cs=c.cells∧c.ok
theorem el_cm {H:Type}{enc:TypeId×Value→H}{W:World}:Elem enc Tryz.prog W 41 CmR:=by
 intro fuel cs x hf
 have h1:=el_flen (n:=7) Tryz.underlying41 (by kernel_rfl) hf
 obtain ⟨a0,h0,w0⟩:=el_fld (i:=0) (sz:=1) (by kernel_rfl) (el_int Tryz.underlying3) hf
 obtain ⟨a1,e1,w1⟩:=el_fld (i:=1) (sz:=1) (by kernel_rfl) (el_int Tryz.underlying3) hf
 obtain ⟨a2,e2,w2⟩:=el_fld (i:=2) (sz:=1) (by kernel_rfl) (el_int Tryz.underlying3) hf
 obtain ⟨a3,e3,w3⟩:=el_fld (i:=3) (sz:=1) (by kernel_rfl) (el_string Tryz.underlying9) hf
 obtain ⟨a4,e4,w4⟩:=el_fld (i:=4) (sz:=1) (by kernel_rfl) (el_string Tryz.underlying9) hf
 obtain ⟨a5,e5,w5⟩:=el_fld (i:=5) (sz:=1) (by kernel_rfl) (el_string Tryz.underlying9) hf
 obtain ⟨a6,e6,w6⟩:=el_fld (i:=6) (sz:=1) (by kernel_rfl) (el_int Tryz.underlying3) hf
 match cs,h1 with
 | [c0,c1,c2,c3,c4,c5,c6],_ =>
  simp only [List.drop_succ_cons,List.drop_zero,List.take_succ_cons,List.take_zero,List.cons.injEq,and_true] at h0 e1 e2 e3 e4 e5 e6
  exact ⟨⟨a0,a1,a2,a3,a4,a5,a6⟩,by rw [h0,e1,e2,e3,e4,e5,e6];rfl,w0,w1,w2,w3,w4,w5,w6⟩
set_option maxRecDepth 100000 in
theorem arg_t23 {H:Type}{enc:TypeId×Value→H}{W:World}{base:Nat}{v:Value}{d:DataW H}{p:List MemPlace}(hv:Value.okWide Tryz.prog W .any base 23 v) (h:DataW.Trod enc Tryz.prog W 0 (fun _=>true) true 23 v d p):∃ l:List Cm,Sl (ghost W) 7 CmR v l :=
 arg_slice Tryz.underlying23 (by kernel_rfl) el_cm hv h
theorem cms_of {G:GH}{v:Value}{l:List Cm}(h:Sl G 7 CmR v l):Cms G v l∧∀ c∈l,c.ok:=by
 obtain ⟨A,c,rfl,h1,h2,h3,h4⟩:=h.open
 refine ⟨Sl.le h (GH.le_refl _) (fun _ _ hx=>hx.1),fun x hx=>?_⟩
 obtain ⟨i,hi,rfl⟩:=List.getElem_of_mem hx
 obtain ⟨cs,_,h5,h6⟩:=h4 i _ (List.getElem?_eq_getElem hi)
 exact h5.2
theorem firstEq:(Rows.laid_unicode_utf8_first:DataW Unit)=Lib.firstData:=by kernel_rfl
theorem acceptEq:(Rows.laid_unicode_utf8_acceptRanges:DataW Unit)=Lib.acceptData:=by kernel_rfl
abbrev IsInt (v:Value):Prop := ∃ a,v=.int .i64 a∧(Lit.int .i64 a).wf=true
set_option maxRecDepth 100000 in
theorem arg_t3 {H:Type}{enc:TypeId×Value→H}{W:World}{base:Nat}{v:Value}{d:DataW H}{p:List MemPlace}(hv:Value.okWide Tryz.prog W .any base 3 v) (h:DataW.Trod enc Tryz.prog W 0 (fun _=>true) true 3 v d p):IsInt v:=arg_int Tryz.underlying3 hv h
set_option maxRecDepth 100000 in
theorem arg_t22 {H:Type}{enc:TypeId×Value→H}{W:World}{base:Nat}{v:Value}{d:DataW H}{p:List MemPlace}(hv:Value.okWide Tryz.prog W .any base 22 v) (h:DataW.Trod enc Tryz.prog W 0 (fun _=>true) true 22 v d p):∃ l:List Int,Sl (ghost W) 1 (IntR .i64) v l :=
 arg_slice Tryz.underlying22 (by kernel_rfl) (el_int Tryz.underlying3) hv h
end Go.Proofs.YtkofafmiabmobaaGreatDoor
/-
  The law AuditMembers (layer 44).
-/
set_option maxHeartbeats 2000000
namespace Go.Proofs.YtkofafmiabmobaaGreatDoor
open Go.Vx Go.ChangeShapes Go.WideShapes Go.ChangeAt Go.RowKit
theorem auditMembers_law {W:World}{v0 v1 v2:Value}(hT:TabsG (ghost W)) (g0:∃ l:List Int,Sl (ghost W) 1 (IntR .i64) v0 l) (g1:∃ l:List Cm,Sl (ghost W) 7 CmR v1 l) (g2:IsInt v2):LawCon Tryz.prog 3 #[v0,v1,v2] W:=by
 obtain ⟨ml,hs⟩:=g0
 obtain ⟨l,hl0⟩:=g1
 obtain ⟨i,rfl,hi⟩:=g2
 obtain ⟨hl,hok⟩:=cms_of hl0
 unfold LawCon
 generalize ghost W=G at *
 have qa:=fun G' (h:GH.le G G')=>awake44_s (hT.up h)
 have q2:=lg28_s hl
 obtain ⟨LA,lc,rfl,hlc,hcm,hsome,hcp⟩:=rowOpen hl
 simp only [maxLen] at hcm
 obtain ⟨SA,sc,rfl,hsc,hsm,-⟩:=id hs.openInt
 simp only [maxLen] at hsm
 (refine v_enter Tryz.func3 rfl Tryz.ntmps3 rfl ?_;intro B _)
 by_cases h40:ml.length≤40
 ·repeat' (first|refine Wa ?_|(refine Wc ⟨?_,?_⟩<;>first|exact True.intro|intro h)|fail)
  refine cQ rfl q2 ?_
  rintro _ G1 _ - ⟨hG1,rfl,b1,rfl,h2⟩
  subst hG1
  cases b1 with
  | true =>
   repeat' (first|refine Wa ?_|(refine Wc ⟨?_,?_⟩<;>first|exact True.intro|intro h)|fail)
   refine cQ rfl (qa _ (GH.le_refl _)) ?_
   rintro _ G9 _ - ⟨rfl,rfl⟩
   repeat' (first|refine Wa ?_|(refine Wc ⟨?_,?_⟩<;>first|exact True.intro|intro h)|fail)
   refine Vr ?_
   rfl
  | false =>
   have hcs:=h2 rfl
   by_cases h30:l.length≤30
   ·have hlw:CmsW l:=⟨by omega,fun c hc=>⟨hok c hc,(hcs.2 c hc).1,(hcs.2 c hc).2.1⟩⟩
    repeat' (first|refine Wa ?_|(refine Wc ⟨?_,?_⟩<;>first|exact True.intro|intro h)|fail)
    refine cQ rfl (audMembers_s hT hs (by omega) hl hlw i hi) ?_
    rintro r1 G2 _ hle2 ⟨rfl,hr1⟩
    repeat' (first|refine Wa ?_|(refine Wc ⟨?_,?_⟩<;>first|exact True.intro|intro h)|fail)
    refine cQ rfl (refMembers44_s (hs.mono hle2) (hl.mono hle2) hlw i hi) ?_
    rintro r2 G3 _ hle3 ⟨rfl,hr2⟩
    have qi:=ints_s (hr1.mono hle3) hr2
    rw [show intsB (audR ml l i) (audR ml l i)=true by unfold intsB;simp] at qi
    repeat' (first|refine Wa ?_|(refine Wc ⟨?_,?_⟩<;>first|exact True.intro|intro h)|refine cJ qi ?_|fail)
    refine cQ rfl (qa _ (GH.le_trans hle2 hle3)) ?_
    rintro _ G9 _ - ⟨rfl,rfl⟩
    repeat' (first|refine Wa ?_|(refine Wc ⟨?_,?_⟩<;>first|exact True.intro|intro h)|fail)
    refine Vr ?_
    rfl
   ·repeat' (first|refine Wa ?_|(refine Wc ⟨?_,?_⟩<;>first|exact True.intro|intro h)|fail)
    refine cQ rfl (qa _ (GH.le_refl _)) ?_
    rintro _ G9 _ - ⟨rfl,rfl⟩
    repeat' (first|refine Wa ?_|(refine Wc ⟨?_,?_⟩<;>first|exact True.intro|intro h)|fail)
    refine Vr ?_
    rfl
 ·repeat' (first|refine Wa ?_|(refine Wc ⟨?_,?_⟩<;>first|exact True.intro|intro h)|fail)
  refine cQ rfl (qa _ (GH.le_refl _)) ?_
  rintro _ G9 _ - ⟨rfl,rfl⟩
  repeat' (first|refine Wa ?_|(refine Wc ⟨?_,?_⟩<;>first|exact True.intro|intro h)|fail)
  refine Vr ?_
  rfl
end Go.Proofs.YtkofafmiabmobaaGreatDoor
/-
  The laid variables (three tables; of these the two of UTF-8 are read).
-/
namespace Go.Proofs.YtkofafmiabmobaaGreatDoor
open Go.Vx Go.ChangeShapes Go.WideShapes Go.ChangeAt Go.RowKit
abbrev tabsLaid3:List (String×DataW Unit):=[("unicode/utf8.acceptRanges",Rows.laid_unicode_utf8_acceptRanges),("changeover/crc.table",Rows.laid_changeover_crc_table),("unicode/utf8.first",Rows.laid_unicode_utf8_first)]
theorem tabs3_plain:(tabsLaid3.all fun x=>x.2.handleName?.isNone)=true:=by kernel_rfl
theorem tabs3_of_laid {W:World}(hL:laidMetH Tryz.prog tabsLaid3 W):TabsG (ghost W):=by
 rw [MakeChecks.laidMetH_plain _ _ _ tabs3_plain] at hL
 have r1:=Lib.laidMet.reads hL (.tail _ (.tail _ (.head _)))
 have r2:=Lib.laidMet.reads hL (.head _)
 rw [firstEq] at r1
 rw [acceptEq] at r2
 have hU:=utf8Tabs_of_readsT (ρ:=laysDecode_ren) { laysDecode with } ⟨by kernel_rfl,by kernel_rfl,by kernel_rfl,by kernel_rfl,by kernel_rfl,by kernel_rfl,by kernel_rfl⟩ r1 r2
 clear hL r1 r2
 intro w hw
 have lift:∀ (a:Addr) v,W.cell? a=some v→w.cell? a=some v:=by
  intro a v h
  unfold World.cell? at h ⊢
  cases hb:W.heap[a.block]? with
  | none=>rw [hb] at h;simp at h
  | some o=>rw [hw _ _ hb];rw [hb] at h;exact h
 exact ⟨fun c hc=>lift _ _ (hU.1 c hc),fun i hi=>⟨lift _ _ (hU.2 i hi).1,lift _ _ (hU.2 i hi).2⟩⟩
theorem clos_laid:laidOutB Tryz.prog=true:=by kernel_rfl
theorem clos_rowed:mapsRowed Tryz.prog=true:=by kernel_rfl
theorem clos_heard:Tryz.prog.stopsHeard=true:=by kernel_rfl
theorem clos_may:Tryz.prog.mayEnter=true:=by kernel_rfl
theorem clos_lifts:(Rows.auditMembersRow.lifted == Tryz.prog.liftsFinal)=true:=by kernel_rfl
theorem clos_make:(Tryz.prog.make == some Rows.auditMembersRow.make)=true:=by kernel_rfl
theorem clos_plain:(Rows.auditMembersRow.plainKeys == Tryz.prog.plainKeys)=true:=by kernel_rfl
theorem clos_main:Tryz.prog.mainIs=some (true, "65108399512b8523a40e9adb35ccd139bb5a0413b437be7cbe7acd934aacdeba".toList):=by kernel_rfl
theorem clos_looks:true=Tryz.prog.looks []:=by kernel_rfl
theorem auditMembers_own : ownKnob Tryz.prog.godebug = none := by kernel_rfl
theorem auditMembers_laidOut : laidOutB Tryz.prog = true := clos_laid
theorem auditMembers_spec : LawSpec Rows.auditMembersSpec 3 := ⟨rfl, fun H ds h => by match ds, h with | [d0, d1, d2], _ => rfl⟩
set_option maxRecDepth 100000 in
theorem auditMembers_lifted (os : Os) (started : os.Started) (H : Type) (enc : TypeId × Value → H) :
    ReturnsInHanded {} Tryz.checked os 3 .any (fun w args => (Rows.auditMembersSpec.pre enc Tryz.prog Tryz.f3 Rows.auditMembersRow.domain false w args ∧ laidMetH Tryz.prog tabsLaid3 w) ∧ sizedMet enc Tryz.prog Tryz.f3 (OpenSpec.ofChange Rows.auditMembersSpec) false w args)
      (Rows.auditMembersSpec.post enc Tryz.prog Tryz.f3 false true false false) := by
  refine returnsInHanded_of_change_and (C := Tryz.checked) (X := fun w _ => laidMetH Tryz.prog tabsLaid3 w) (fun _ _ _ hh h => h.of_heap hh) auditMembers_own started (by kernel_rfl) Tryz.func3
    (ChangeSpec.witness_shaped (enc := enc) (C := Tryz.checked) (os := os) (X := fun w _ => laidMetH Tryz.prog tabsLaid3 w) false (World.laidAll Tryz.prog os tabsLaid3) #[.slice none 0 0, .slice none 0 0, .int .i64 0] 8 (World.laidAll_os _ _ _)
      (World.shaped_of_ZipB (by kernel_rfl) (by kernel_rfl)) (by kernel_rfl) (by kernel_rfl) (by kernel_rfl)
      (by rw [MakeChecks.laidMetH_plain _ _ _ tabs3_plain]; exact laidMet_laidAll _ (by kernel_rfl) (by kernel_rfl))) ?_
  intro W base args ds gs before hval0 hW hcnd _ hL _
  have hval : ∀ (j : Nat) t v, Tryz.f3.params[j]? = some t → args[j]? = some v → Value.okWide Tryz.prog W .any base t v := hval0
  refine law_post auditMembers_laidOut Tryz.underlying4 rfl auditMembers_spec rfl (by kernel_rfl) hW ?_
  obtain ⟨p, q, hA0, hV, rfl, hfz, hnd⟩ := hW
  have hA : DataW.TrodAll enc Tryz.prog W 0 (fun _ => true) true Tryz.f3.params.toList args.toList ds p := hA0
  rw [Tryz.params3] at hA hval
  obtain ⟨v0, vs0, d0, ds0, p0, q0, hargs, rfl, rfl, h0, r0⟩ := trodAll_cons hA
  obtain ⟨v1, vs1, d1, ds1, p1, q1, rfl, rfl, rfl, h1, r1⟩ := trodAll_cons r0
  obtain ⟨v2, vs2, d2, ds2, p2, q2, rfl, rfl, rfl, h2, r2⟩ := trodAll_cons r1
  obtain ⟨rfl, rfl, rfl⟩ := trodAll_nil r2
  obtain rfl : args = #[v0, v1, v2] := by cases args; simp_all
  have g0 := arg_t22 (hval 0 22 v0 rfl rfl) h0
  have g1 := arg_t23 (hval 1 23 v1 rfl rfl) h1
  have g2 := arg_t3 (hval 2 3 v2 rfl rfl) h2
  exact auditMembers_law (tabs3_of_laid hL) g0 g1 g2
theorem auditMembers_c_inPlace : (Rows.auditMembersRow.inPlace == Tryz.prog.inPlace 3) = true := by kernel_rfl
theorem auditMembers_c_unfollowed : (Rows.auditMembersRow.unfollowed == Tryz.prog.unfollowed 3) = true := by kernel_rfl
theorem auditMembers_c_recurses : (Rows.auditMembersRow.recurses == Tryz.prog.recurses 3) = true := by kernel_rfl
theorem auditMembers_c_named : (Rows.auditMembersRow.named == Tryz.prog.varsNamed 3) = true := by kernel_rfl
theorem auditMembers_c_lifted : (Rows.auditMembersRow.lifted == Tryz.prog.liftsFinal) = true := clos_lifts
theorem auditMembers_c_make : (Tryz.prog.make == some Rows.auditMembersRow.make) = true := clos_make
theorem auditMembers_c_plainKeys : (Rows.auditMembersRow.plainKeys == Tryz.prog.plainKeys) = true := clos_plain
theorem auditMembers_closed : joinedFacts Tryz.prog 3 Tryz.f3 Rows.auditMembersSpec Rows.auditMembersRow = true := by
  unfold joinedFacts
  rw [clos_laid, clos_rowed, clos_heard, clos_may, auditMembers_c_inPlace, auditMembers_c_unfollowed, auditMembers_c_recurses, auditMembers_c_named, auditMembers_c_lifted, auditMembers_c_make, auditMembers_c_plainKeys]
  kernel_rfl
theorem auditMembers_over : Rows.auditMembersRow.holds Tryz.pinned (OpenSpec.ofChange Rows.auditMembersSpec) :=
  OpenClaim.holds_of_wide 3 Tryz.f3 rfl rfl rfl rfl rfl rfl rfl ⟨rfl, rfl, rfl, rfl, rfl⟩ rfl rfl rfl rfl rfl (by kernel_rfl) Tryz.func3 auditMembers_closed
    (of_decide_eq_true (by kernel_rfl)) (by unfold Func.isWrapper; first | (rw [if_pos (by decide +kernel)]; kernel_rfl) | (rw [if_neg (by decide +kernel)]; exact ⟨rfl, rfl⟩))
    (fun os started H enc _ => auditMembers_lifted os started H enc)
theorem auditMembers_holds : Rows.AuditMembersSaid := auditMembers_over
theorem auditMembers_c_wft : Rows.auditMembersRow.wfByText (OpenSpec.ofChange Rows.auditMembersSpec) = true := by kernel_rfl
theorem auditMembers_c_func : Tryz.prog.funcNamed Rows.auditMembersRow.func = some 3 := by kernel_rfl
theorem auditMembers_c_stand : ([22, 23, 3].all fun u => !Tryz.prog.wantsStandIn u) = true := by kernel_rfl
theorem auditMembers_c_goes : false = Rows.auditMembersRow.goesBy Tryz.prog := by kernel_rfl
theorem auditMembersCard_holds : Rows.AuditMembersCardSaid :=
  Claim7.holds_tied_plain_at .later [] [.data, .data, .pinned] true (true, "65108399512b8523a40e9adb35ccd139bb5a0413b437be7cbe7acd934aacdeba") true auditMembers_holds (fun _ h => by cases h) auditMembers_c_wft (fun _ h => by cases h) auditMembers_row_tie rfl ⟨rfl, rfl⟩ clos_main rfl
    (fun f fn hf hfn => by
      obtain rfl : f = 3 := Option.some.inj (auditMembers_c_func.symm.trans hf) |>.symm
      obtain rfl : fn = Tryz.f3 := (Option.some.inj (Tryz.func3.symm.trans hfn)).symm
      exact ⟨clos_looks, fun j t ht => by
        rw [Tryz.params3] at ht
        have hm : t ∈ [22, 23, 3] := by simpa using Array.mem_of_getElem? ht
        exact (show Tryz.prog.wantsStandIn t = false by simpa using List.all_eq_true.1 auditMembers_c_stand t hm)⟩)
    auditMembers_c_goes
end Go.Proofs.YtkofafmiabmobaaGreatDoor
