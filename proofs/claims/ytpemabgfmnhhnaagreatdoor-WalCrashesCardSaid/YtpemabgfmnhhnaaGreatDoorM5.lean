/-
  hard (layer 19), the ninth part: the reference's Of.
-/
import Derived.Test.YtpemabgfmnhhnaaGreatDoorM4
import Derived.Test.YtpemabgfmnhhnaaGreatDoorM3
import Derived.Test.YtpemabgfmnhhnaaGreatDoorM1
import Derived.Test.YtpemabgfmnhhnaaGreatDoorM2
import VxDev
import Derived.Lib.LaidTab
import Derived.Shelf.SortM.Plain
import Derived.Shelf.SortM.SortNone
import Derived.Shelf.Slices.CompactI
set_option linter.unusedSimpArgs false
set_option linter.unusedVariables false
namespace Go.Proofs.YtpemabgfmnhhnaaGreatDoor
open Go.Vx Go.ChangeShapes Go.WideShapes Go.ChangeAt Go.RowKit
theorem r1_take {l:List Rc}{k:Nat}(h:k<l.length):(l.take (k+1)).foldl r1 Hd.zero=r1 ((l.take k).foldl r1 Hd.zero) l[k]:=by
 rw [List.take_add_one,List.getElem?_eq_getElem h,List.foldl_append]
 rfl
theorem accS_take {b:Int}{l:List Rc}{k:Nat}(h:k<l.length):(l.take (k+1)).foldl (accS b) []=accS b ((l.take k).foldl (accS b) []) l[k]:=by
 rw [List.take_add_one,List.getElem?_eq_getElem h,List.foldl_append]
 rfl
theorem choS_take {b:Int}{l:List Rc}{k:Nat}(h:k<l.length):(l.take (k+1)).foldl (choS b) []=choS b ((l.take k).foldl (choS b) []) l[k]:=by
 rw [List.take_add_one,List.getElem?_eq_getElem h,List.foldl_append]
 rfl
abbrev nilS:Value:=.slice none 0 0
abbrev resO:Obj:=.cells (hdL 0 0 0 nilS nilS nilS).toArray 27 (0,0)
abbrev hardO (L:List Value):Obj:=.cells L.toArray 27 (0,0)
structure Two (k:Nat) (acc cho:List Ent):Prop where
 ra:RiseL acc
 rc:RiseL cho
 na:acc.length≤k
 nc:cho.length≤k
 oa:∀ e∈acc,e.ok
 oc:∀ e∈cho,e.ok
theorem insN_len (x:Ent) (l:List Ent):(insN x l).length≤l.length+1:=by
 unfold insN
 split
 ·omega
 ·exact ins_len x l
theorem two_step {k:Nat}{acc cho:List Ent}(t:Two k acc cho) (b:Int) {x:Rc}(hc:x.cmd.ok):Two (k+1) (accS b acc x) (choS b cho x):=by
 have hm:Two (k+1) acc cho:=⟨t.ra,t.rc,by have:=t.na;omega,by have:=t.nc;omega,t.oa,t.oc⟩
 have h1:∀ acc' cho',acc'=accS b acc x→cho'=choS b cho x→Two (k+1) acc' cho':=by
  rintro _ _ rfl rfl
  refine ⟨?_,?_,?_,?_,?_,?_⟩
  ·unfold accS;split
   ·exact rise_ins t.ra _
   ·exact t.ra
  ·unfold choS;split
   ·exact rise_insN t.rc _
   ·exact t.rc
  ·unfold accS;split
   ·exact Nat.le_trans (ins_len _ _) (by have:=t.na;omega)
   ·exact hm.na
  ·unfold choS;split
   ·exact Nat.le_trans (insN_len _ _) (by have:=t.nc;omega)
   ·exact hm.nc
  ·unfold accS;split
   ·rename_i h
    intro e he
    obtain rfl|he:=mem_ins he
    ·exact (entOf_ok h.1 hc).1
    ·exact t.oa e he
   ·exact t.oa
  ·unfold choS;split
   ·rename_i h
    intro e he
    unfold insN at he
    split at he
    ·exact t.oc e he
    ·obtain rfl|he:=mem_ins he
     ·exact (entOf_ok h.1 hc).1
     ·exact t.oc e he
   ·exact t.oc
 exact h1 _ _ rfl rfl
theorem two_zero:Two 0 [] []:=⟨fun i j hj=>by simp at hj,fun i j hj=>by simp at hj,by simp,by simp,by simp,by simp⟩
theorem rOf_s {G:GH}{l:List Rc}{lv:Value}(hs:Rs G lv l) (hn:l.length≤200) :
 Con Tryz.prog 66 #[lv] G [] (fun r G' μ'=>μ'=[]∧∃ L,r=.agg L.toArray∧HdV G' ⟨(l.foldl r1 Hd.zero).pr,(l.foldl r1 Hd.zero).pn,(l.foldl r1 Hd.zero).base,(l.foldl r1 Hd.zero).image,l.foldl (accS (l.foldl r1 Hd.zero).base) [],l.foldl (choS (l.foldl r1 Hd.zero).base) []⟩ L):=by
 obtain ⟨A,c,ivf,rfl,hlc,hcm,hsome,hcp,him,hok⟩:=rsOpen hs
 simp only [maxLen] at hcm
 (refine v_enter Tryz.func66 rfl Tryz.ntmps66 rfl ?_;intro B _)
 repeat' (first|apply v_seq|apply v_region|apply v_nil|apply v_block|apply v_pure;(case hop=>(apply p_assign<;>rfl));(case hd=>rfl)|apply v_alloc;(case hz|hd=>rfl);intro b|fail)
 rename_i ob
 rename Nat=>hb
 refine v_loop [4,0,3,2] (fun us G' μ'=>G'=G∧∃ (k:Nat) (iv:Value),k≤l.length∧us=[Value.int .i64 (k:Nat),.slice A l.length c,.pointer (some ⟨hb,0,none⟩),.pointer (some ⟨ob,0,none⟩)]∧μ'=[(hb,hardO (hdL ((l.take k).foldl r1 Hd.zero).pr ((l.take k).foldl r1 Hd.zero).pn ((l.take k).foldl r1 Hd.zero).base iv nilS nilS)),(ob,resO)]∧Sl G 1 (IntR .u8) iv ((l.take k).foldl r1 Hd.zero).image) (fun us=>l.length-(headI us).toNat) rfl ⟨rfl,0,nilS,by omega,rfl,rfl,Sl.nil⟩ ?_
 rintro us G2 μ' ⟨rfl,k,im,hk,rfl,rfl,hi⟩
 by_cases hlt:k<l.length
 ·have e1:((k:Nat):Int).toNat=k:=by omega
  have hcx:=hcp k hlt
  have hix:=him k hlt
  have hcok:=hok _ (List.getElem_mem hlt)
  have hft:=r1_take hlt
  generalize hxe:l[k]=x at *
  generalize ivf k=iv at *
  generalize (l.take k).foldl r1 Hd.zero=H at *
  obtain ⟨Ai,ci,rfl,hic,him2,-⟩:=id hix.openInt
  obtain ⟨Aj,cj,rfl,-⟩:=id hi.openInt
  simp only [maxLen] at him2
  have qc:=refRecCheck_s (G:=G2) x.kind x.round x.node x.index x.cmd hcok.1 Ai x.image.length ci (by omega)
  by_cases hv:chkI x=0
  rotate_left
  ·have es:r1 H x=H:=by unfold r1;rw [if_neg hv]
   have hv':¬ recI x.kind x.round x.node x.index x.cmd x.image.length=0:=hv
   generalize recI x.kind x.round x.node x.index x.cmd x.image.length=I at *
   repeat' (first|apply v_seq|apply v_region|apply v_nil|apply v_skip|apply v_block|apply v_exit;(case hp=>rfl)|apply v_pure;(case hop=>first|apply p_move<;>rfl|apply p_lt<;>rfl|apply p_ne<;>rfl|apply p_assign<;>rfl|apply p_lenSlice<;>rfl|apply p_add;(case hx|hy=>rfl);(case h=>omega)|apply p_indexAddrS;(case hx|hi=>rfl);(case h0|h=>omega);(case hA=>(apply_assumption;omega))|fail);(case hd=>rfl)|apply v_cond;(case hc=>rfl);all_goals (intro h;(try simp only [reduceCtorEq,zzz] at h);try (exfalso;omega))|apply v_read;(case hop=>(apply r_loadN;rfl;exact CellsAt.frozen hcx;rfl));(case hd=>rfl)|apply v_callJ (hs:=qc);(case ha|hd=>rfl)|apply v_read;(case hop=>(apply r_loadNo;(case hx=>rfl);(case h=>repeat exact mhd _);(case hd=>repeat first|with_reducible exact dt_nil|apply dt_here);(case hn=>rfl)));(case hd=>rfl)|apply v_alloc;(case hz|hd=>rfl);intro b|apply v_store;(case hp|hx|hc|hsz|h1=>rfl);(case hb=>repeat exact mhd _);(case hfit=>exact nle rfl);(case hov=>((repeat (first|with_reducible exact ov_nil|apply ov_cons));done));(case hu=>repeat (exact Upd.here _ _))|fail)
   refine v_drop (ν:=[(hb,_),(ob,_)]) (by repeat (first|exact List.Sublist.refl _|apply List.Sublist.cons)) ?_
   refine v_again rfl ⟨rfl,k+1,_,by omega,rfl,by rw [hft,es],by rw [hft,es];exact hi⟩ (by simp [headI];omega)
  rw [show recI x.kind x.round x.node x.index x.cmd x.image.length=0 from hv] at qc
  have hkk:=(rec0 (show recI x.kind x.round x.node x.index x.cmd x.image.length=0 from hv)).1
  have es:r1 H x=(if x.kind=1∨x.kind=2 then H.prom x else if x.kind=4∧H.base<x.index then { H with base:=x.index,image:=x.image } else H):=by unfold r1;rw [if_pos hv]
  rw [es] at hft
  have qb:=hasBallot_s G2 x.kind
  have ql:=refLess_s G2 H.pr H.pn x.round x.node
  by_cases k12:x.kind=1∨x.kind=2
  ·rw [if_pos k12] at hft
   rw [decide_eq_true k12] at qb
   unfold Hd.prom at hft
   by_cases hl:lessP H.pr H.pn x.round x.node
   ·rw [if_pos hl] at hft
    rw [decide_eq_true hl] at ql
    repeat' (first|apply v_seq|apply v_region|apply v_nil|apply v_skip|apply v_block|apply v_blk|apply v_take;(case hg=>rfl)|apply v_pass;(case hg|hn|hd=>rfl)|apply v_pure;(case hop=>first|apply p_move<;>rfl|apply p_nes<;>rfl|apply p_eq<;>rfl|apply p_lt<;>rfl|apply p_assign<;>rfl|apply p_pickT<;>rfl|apply p_pickF<;>rfl|apply p_lenSlice<;>rfl|apply p_fieldAddrB<;>rfl|apply p_add;(case hx|hy=>rfl);(case h=>omega)|apply p_indexAddrS;(case hx|hi=>rfl);(case h0|h=>omega);(case hA=>(apply_assumption;omega))|fail);(case hd=>rfl)|apply v_condT;(case hc=>rfl)|apply v_condF;(case hc=>rfl)|apply v_cond;(case hc=>rfl);all_goals (intro h;(try simp only [reduceCtorEq,zzz] at h);try (exfalso;omega))|apply v_guardB;(case h1|h2=>rfl);all_goals (intro h;(try simp only [reduceCtorEq,zzz] at h);try (exfalso;omega))|apply v_read;(case hop=>(apply r_loadN;rfl;exact CellsAt.frozen hcx;rfl));(case hd=>rfl)|apply v_callJ (hs:=qc);(case ha|hd=>rfl)|apply v_callJ (hs:=qb);(case ha|hd=>rfl)|apply v_callJ (hs:=ql);(case ha|hd=>rfl)|apply v_read;(case hop=>first|apply r_loadNo;(case hx=>rfl);(case h=>repeat first|exact mhd _|apply mtl);(case hd=>repeat first|with_reducible exact dt_nil|apply dt_here);(case hn=>rfl)|apply r_load1;rfl;(apply Cell.own;(case h=>repeat exact mhd _);rfl)|fail);(case hd=>rfl)|apply v_alloc;(case hz|hd=>rfl);intro b|apply v_store;(case hp|hx|hc|hsz|h1=>rfl);(case hb=>repeat first|exact mhd _|apply mtl);(case hfit=>exact nle rfl);(case hov=>((repeat (first|with_reducible exact ov_nil|apply ov_cons));done));(case hu=>repeat first|exact Upd.here _ _|apply Upd.there)|fail)
    refine v_drop (ν:=[(hb,_),(ob,_)]) (by repeat (first|exact List.Sublist.refl _|apply List.Sublist.cons)) ?_
    refine v_again rfl ⟨rfl,k+1,_,by omega,rfl,by (rw [hft]<;>rfl),by rw [hft];exact hi⟩ (by simp [headI];omega)
   ·rw [if_neg hl] at hft
    rw [decide_eq_false hl] at ql
    repeat' (first|apply v_seq|apply v_region|apply v_nil|apply v_skip|apply v_block|apply v_blk|apply v_take;(case hg=>rfl)|apply v_pass;(case hg|hn|hd=>rfl)|apply v_pure;(case hop=>first|apply p_move<;>rfl|apply p_nes<;>rfl|apply p_eq<;>rfl|apply p_lt<;>rfl|apply p_assign<;>rfl|apply p_pickT<;>rfl|apply p_pickF<;>rfl|apply p_lenSlice<;>rfl|apply p_fieldAddrB<;>rfl|apply p_add;(case hx|hy=>rfl);(case h=>omega)|apply p_indexAddrS;(case hx|hi=>rfl);(case h0|h=>omega);(case hA=>(apply_assumption;omega))|fail);(case hd=>rfl)|apply v_condF;(case hc=>rfl)|apply v_cond;(case hc=>rfl);all_goals (intro h;(try simp only [reduceCtorEq,zzz] at h);try (exfalso;omega))|apply v_guardB;(case h1|h2=>rfl);all_goals (intro h;(try simp only [reduceCtorEq,zzz] at h);try (exfalso;omega))|apply v_read;(case hop=>(apply r_loadN;rfl;exact CellsAt.frozen hcx;rfl));(case hd=>rfl)|apply v_callJ (hs:=qc);(case ha|hd=>rfl)|apply v_callJ (hs:=qb);(case ha|hd=>rfl)|apply v_callJ (hs:=ql);(case ha|hd=>rfl)|apply v_read;(case hop=>first|apply r_loadNo;(case hx=>rfl);(case h=>repeat first|exact mhd _|apply mtl);(case hd=>repeat first|with_reducible exact dt_nil|apply dt_here);(case hn=>rfl)|apply r_load1;rfl;(apply Cell.own;(case h=>repeat exact mhd _);rfl)|fail);(case hd=>rfl)|apply v_alloc;(case hz|hd=>rfl);intro b|apply v_store;(case hp|hx|hc|hsz|h1=>rfl);(case hb=>repeat exact mhd _);(case hfit=>exact nle rfl);(case hov=>((repeat (first|with_reducible exact ov_nil|apply ov_cons));done));(case hu=>repeat (exact Upd.here _ _))|fail)
    refine v_drop (ν:=[(hb,_),(ob,_)]) (by repeat (first|exact List.Sublist.refl _|apply List.Sublist.cons)) ?_
    refine v_again rfl ⟨rfl,k+1,_,by omega,rfl,by (rw [hft]<;>rfl),by rw [hft];exact hi⟩ (by simp [headI];omega)
  ·rw [if_neg k12] at hft
   rw [decide_eq_false k12] at qb
   by_cases k4:x.kind=4∧H.base<x.index
   ·rw [if_pos k4] at hft
    repeat' (first|apply v_seq|apply v_region|apply v_nil|apply v_skip|apply v_block|apply v_blk|apply v_take;(case hg=>rfl)|apply v_pass;(case hg|hn|hd=>rfl)|apply v_pure;(case hop=>first|apply p_move<;>rfl|apply p_nes<;>rfl|apply p_eq<;>rfl|apply p_lt<;>rfl|apply p_gt<;>rfl|apply p_assign<;>rfl|apply p_pickT<;>rfl|apply p_pickF<;>rfl|apply p_lenSlice<;>rfl|apply p_fieldAddrB<;>rfl|apply p_add;(case hx|hy=>rfl);(case h=>omega)|apply p_indexAddrS;(case hx|hi=>rfl);(case h0|h=>omega);(case hA=>(apply_assumption;omega))|fail);(case hd=>rfl)|apply v_condF;(case hc=>rfl)|apply v_cond;(case hc=>rfl);all_goals (intro h;(try simp only [reduceCtorEq,zzz] at h);try (exfalso;omega))|apply v_guardB;(case h1|h2=>rfl);all_goals (intro h;(try simp only [reduceCtorEq,zzz] at h);try (exfalso;omega))|apply v_read;(case hop=>(apply r_loadN;rfl;exact CellsAt.frozen hcx;rfl));(case hd=>rfl)|apply v_callJ (hs:=qc);(case ha|hd=>rfl)|apply v_callJ (hs:=qb);(case ha|hd=>rfl)|apply v_read;(case hop=>first|apply r_loadNo;(case hx=>rfl);(case h=>repeat exact mhd _);(case hd=>repeat first|with_reducible exact dt_nil|apply dt_here);(case hn=>rfl)|apply r_load1;rfl;(apply Cell.own;(case h=>repeat first|exact mhd _|apply mtl);rfl)|fail);(case hd=>rfl)|apply v_alloc;(case hz|hd=>rfl);intro b|apply v_store;(case hp|hx|hc|hsz|h1=>rfl);(case hb=>repeat first|exact mhd _|apply mtl);(case hfit=>exact nle rfl);(case hov=>((repeat (first|with_reducible exact ov_nil|apply ov_cons));done));(case hu=>repeat first|exact Upd.here _ _|apply Upd.there)|fail)
    refine v_drop (ν:=[(hb,_),(ob,_)]) (by repeat (first|exact List.Sublist.refl _|apply List.Sublist.cons)) ?_
    refine v_again rfl ⟨rfl,k+1,_,by omega,rfl,by (rw [hft]<;>rfl),by rw [hft];exact hix⟩ (by simp [headI];omega)
   ·rw [if_neg k4] at hft
    repeat' (first|apply v_seq|apply v_region|apply v_nil|apply v_skip|apply v_block|apply v_blk|apply v_take;(case hg=>rfl)|apply v_pass;(case hg|hn|hd=>rfl)|apply v_pure;(case hop=>first|apply p_move<;>rfl|apply p_nes<;>rfl|apply p_eq<;>rfl|apply p_lt<;>rfl|apply p_gt<;>rfl|apply p_assign<;>rfl|apply p_pickT<;>rfl|apply p_pickF<;>rfl|apply p_lenSlice<;>rfl|apply p_fieldAddrB<;>rfl|apply p_add;(case hx|hy=>rfl);(case h=>omega)|apply p_indexAddrS;(case hx|hi=>rfl);(case h0|h=>omega);(case hA=>(apply_assumption;omega))|fail);(case hd=>rfl)|apply v_condF;(case hc=>rfl)|apply v_cond;(case hc=>rfl);all_goals (intro h;(try simp only [reduceCtorEq,zzz] at h);try (exfalso;omega))|apply v_guardB;(case h1|h2=>rfl);all_goals (intro h;(try simp only [reduceCtorEq,zzz] at h))|apply v_read;(case hop=>(apply r_loadN;rfl;exact CellsAt.frozen hcx;rfl));(case hd=>rfl)|apply v_callJ (hs:=qc);(case ha|hd=>rfl)|apply v_callJ (hs:=qb);(case ha|hd=>rfl)|apply v_read;(case hop=>first|apply r_loadNo;(case hx=>rfl);(case h=>repeat exact mhd _);(case hd=>repeat first|with_reducible exact dt_nil|apply dt_here);(case hn=>rfl)|apply r_load1;rfl;(apply Cell.own;(case h=>repeat first|exact mhd _|apply mtl);rfl)|fail);(case hd=>rfl)|apply v_alloc;(case hz|hd=>rfl);intro b|apply v_store;(case hp|hx|hc|hsz|h1=>rfl);(case hb=>repeat exact mhd _);(case hfit=>exact nle rfl);(case hov=>((repeat (first|with_reducible exact ov_nil|apply ov_cons));done));(case hu=>repeat (exact Upd.here _ _))|fail)
    all_goals
     (refine v_drop (ν:=[(hb,_),(ob,_)]) (by repeat (first|exact List.Sublist.refl _|apply List.Sublist.cons)) ?_
      refine v_again rfl ⟨rfl,k+1,_,by omega,rfl,by (rw [hft]<;>rfl),by rw [hft];exact hi⟩ (by simp [headI];omega))
 obtain rfl:k=l.length:=by omega
 rw [List.take_length] at hi ⊢
 generalize l.foldl r1 Hd.zero=H at *
 repeat' (first|apply v_seq|apply v_region|apply v_nil|apply v_block|apply v_exit;(case hp=>rfl)|apply v_pure;(case hop=>first|apply p_move<;>rfl|apply p_lt<;>rfl|apply p_assign<;>rfl|apply p_lenSlice<;>rfl|fail);(case hd=>rfl)|apply v_cond;(case hc=>rfl);all_goals (intro h;(try simp only [reduceCtorEq,zzz] at h);try (exfalso;omega))|fail)
 refine v_loop [6,0,3,2] (fun us G' μ'=>GH.le G2 G'∧∃ (k:Nat) (L:List Value),k≤l.length∧us=[Value.int .i64 (k:Nat),.slice A l.length c,.pointer (some ⟨hb,0,none⟩),.pointer (some ⟨ob,0,none⟩)]∧μ'=[(hb,hardO L),(ob,resO)]∧HdV G' ⟨H.pr,H.pn,H.base,H.image,(l.take k).foldl (accS H.base) [],(l.take k).foldl (choS H.base) []⟩ L∧Two k ((l.take k).foldl (accS H.base) []) ((l.take k).foldl (choS H.base) [])) (fun us=>l.length-(headI us).toNat) rfl ⟨GH.le_refl _,0,_,by omega,rfl,rfl,⟨im,nilS,nilS,rfl,hi,Sl.nil,Sl.nil⟩,two_zero⟩ ?_
 rintro us G3 μ' ⟨hle,k,L,hk,rfl,rfl,hh,ht⟩
 obtain ⟨im2,av,cv,rfl,hi2,ha,hc⟩:=hh
 simp only at hi2 ha hc
 obtain ⟨A0,c0,rfl,-⟩:=id hi2.openInt
 obtain ⟨A1,c1,rfl,-⟩:=id ha.open
 obtain ⟨A2,c2,rfl,-⟩:=id hc.open
 by_cases hlt:k<l.length
 ·have e1:((k:Nat):Int).toNat=k:=by omega
  have hcx:=(hcp k hlt).le hle
  have hix:=(him k hlt).mono hle
  have hcok:=hok _ (List.getElem_mem hlt)
  have hfa:=accS_take (b:=H.base) hlt
  have hfc:=choS_take (b:=H.base) hlt
  have ht':=two_step ht H.base hcok.1
  generalize hxe:l[k]=x at *
  rw [← hfa,← hfc] at ht'
  generalize ivf k=iv at *
  obtain ⟨Ai,ci,rfl,hic,him2,-⟩:=id hix.openInt
  simp only [maxLen] at him2
  have qc:=refRecCheck_s (G:=G3) x.kind x.round x.node x.index x.cmd hcok.1 Ai x.image.length ci (by omega)
  have qh:=hasCmd_s G3 x.kind
  have na:=ht.na
  have nc:=ht.nc
  have qwa:=refWith_s (entOf x) ha ht.ra (by omega)
  have qwc:=refWith_s (entOf x) hc ht.rc (by omega)
  have qf:=refEntFind_s x.index hc ht.rc
  have hbi:=hitB_iff ht.rc x.index
  have hwa:=withL_ins ht.ra (entOf x)
  have hwc:=withL_ins ht.rc (entOf x)
  generalize (l.take k).foldl (accS H.base) []=acc at *
  generalize (l.take k).foldl (choS H.base) []=cho at *
  by_cases hsame:¬ (chkI x=0∧(x.kind=2∨x.kind=3)∧H.base<x.index)
  ·have ea:accS H.base acc x=acc:=by rw [accS,if_neg fun h=>hsame ⟨h.1,.inl h.2.1,h.2.2⟩]
   have ec:choS H.base cho x=cho:=by rw [choS,if_neg fun h=>hsame ⟨h.1,.inr h.2.1,h.2.2⟩]
   rw [ea] at hfa
   rw [ec] at hfc
   have hfin:HdV G3 ⟨H.pr,H.pn,H.base,H.image,(l.take (k+1)).foldl (accS H.base) [],(l.take (k+1)).foldl (choS H.base) []⟩ (hdL H.pr H.pn H.base (.slice A0 H.image.length c0) (.slice A1 acc.length c1) (.slice A2 cho.length c2)):=by rw [hfa,hfc];exact ⟨_,_,_,rfl,hi2,ha,hc⟩
   by_cases hv:chkI x=0
   ·rw [show recI x.kind x.round x.node x.index x.cmd x.image.length=0 from hv] at qc
    have hsame':¬ ((x.kind=2∨x.kind=3)∧H.base<x.index):=fun h=>hsame ⟨hv,h⟩
    repeat' (first|apply v_seq|apply v_region|apply v_nil|apply v_skip|apply v_block|apply v_exit;(case hp=>rfl)|apply v_take;(case hg=>rfl)|apply v_pass;(case hg|hn|hd=>rfl)|apply v_pure;(case hop=>first|apply p_move<;>rfl|apply p_nes<;>rfl|apply p_lt<;>rfl|apply p_le<;>rfl|apply p_assign<;>rfl|apply p_pickT<;>rfl|apply p_pickF<;>rfl|apply p_not<;>rfl|apply p_lenSlice<;>rfl|apply p_fieldAddrB<;>rfl|apply p_add;(case hx|hy=>rfl);(case h=>omega)|apply p_indexAddrS;(case hx|hi=>rfl);(case h0|h=>omega);(case hA=>(apply_assumption;omega))|fail);(case hd=>rfl)|apply v_condT;(case hc=>rfl)|apply v_cond;(case hc=>rfl);all_goals (intro h;(try simp only [reduceCtorEq,zzz] at h);try (exfalso;omega))|apply v_guardB;(case h1|h2=>rfl);all_goals (intro h;(try simp only [reduceCtorEq,zzz] at h))|apply v_read;(case hop=>(apply r_loadN;rfl;exact CellsAt.frozen hcx;rfl));(case hd=>rfl)|apply v_callJ (hs:=qc);(case ha|hd=>rfl)|apply v_callJ (hs:=qh);(case ha|hd=>rfl)|apply v_read;(case hop=>first|apply r_loadNo;(case hx=>rfl);(case h=>repeat exact mhd _);(case hd=>repeat first|with_reducible exact dt_nil|apply dt_here);(case hn=>rfl)|apply r_load1;rfl;(apply Cell.own;(case h=>repeat first|exact mhd _|apply mtl);rfl)|fail);(case hd=>rfl)|apply v_alloc;(case hz|hd=>rfl);intro b|apply v_store;(case hp|hx|hc|hsz|h1=>rfl);(case hb=>repeat exact mhd _);(case hfit=>exact nle rfl);(case hov=>((repeat (first|with_reducible exact ov_nil|apply ov_cons));done));(case hu=>repeat (exact Upd.here _ _))|fail)
    all_goals first
     |(exfalso;omega)
     |(refine v_drop (ν:=[(hb,_),(ob,_)]) (by repeat (first|exact List.Sublist.refl _|apply List.Sublist.cons)) ?_
       exact v_again rfl ⟨hle,k+1,_,by omega,rfl,rfl,hfin,ht'⟩ (by simp [headI];omega))
   ·have hv':¬ recI x.kind x.round x.node x.index x.cmd x.image.length=0:=hv
    generalize recI x.kind x.round x.node x.index x.cmd x.image.length=I at *
    repeat' (first|apply v_seq|apply v_region|apply v_nil|apply v_skip|apply v_block|apply v_exit;(case hp=>rfl)|apply v_pass;(case hg|hn|hd=>rfl)|apply v_pure;(case hop=>first|apply p_move<;>rfl|apply p_lt<;>rfl|apply p_ne<;>rfl|apply p_assign<;>rfl|apply p_pickT<;>rfl|apply p_lenSlice<;>rfl|apply p_add;(case hx|hy=>rfl);(case h=>omega)|apply p_indexAddrS;(case hx|hi=>rfl);(case h0|h=>omega);(case hA=>(apply_assumption;omega))|fail);(case hd=>rfl)|apply v_condT;(case hc=>rfl)|apply v_cond;(case hc=>rfl);all_goals (intro h;(try simp only [reduceCtorEq,zzz] at h);try (exfalso;omega))|apply v_guardB;(case h1|h2=>rfl);all_goals (intro h;(try simp only [reduceCtorEq,zzz] at h);try (exfalso;omega))|apply v_read;(case hop=>(apply r_loadN;rfl;exact CellsAt.frozen hcx;rfl));(case hd=>rfl)|apply v_callJ (hs:=qc);(case ha|hd=>rfl)|apply v_read;(case hop=>(apply r_loadNo;(case hx=>rfl);(case h=>repeat exact mhd _);(case hd=>repeat first|with_reducible exact dt_nil|apply dt_here);(case hn=>rfl)));(case hd=>rfl)|apply v_alloc;(case hz|hd=>rfl);intro b|apply v_store;(case hp|hx|hc|hsz|h1=>rfl);(case hb=>repeat exact mhd _);(case hfit=>exact nle rfl);(case hov=>((repeat (first|with_reducible exact ov_nil|apply ov_cons));done));(case hu=>repeat (exact Upd.here _ _))|fail)
    all_goals first
     |(exfalso;omega)
     |(refine v_drop (ν:=[(hb,_),(ob,_)]) (by repeat (first|exact List.Sublist.refl _|apply List.Sublist.cons)) ?_
       exact v_again rfl ⟨hle,k+1,_,by omega,rfl,rfl,hfin,ht'⟩ (by simp [headI];omega))
  obtain ⟨hv,hk23,hlb⟩:=Decidable.not_not.1 hsame
  rw [show recI x.kind x.round x.node x.index x.cmd x.image.length=0 from hv] at qc
  rw [decide_eq_true hk23] at qh
  by_cases k2:x.kind=2
  ·have ea:accS H.base acc x=withL acc (entOf x):=by rw [accS,if_pos ⟨hv,k2,hlb⟩,hwa]
   have ec:choS H.base cho x=cho:=by rw [choS,if_neg fun h=>by omega]
   rw [ea] at hfa
   rw [ec] at hfc
   repeat' (first|apply v_seq|apply v_region|apply v_nil|apply v_skip|apply v_block|apply v_take;(case hg=>rfl)|apply v_pure;(case hop=>first|apply p_move<;>rfl|apply p_nes<;>rfl|apply p_eq<;>rfl|apply p_lt<;>rfl|apply p_le<;>rfl|apply p_pickF<;>rfl|apply p_not<;>rfl|apply p_lenSlice<;>rfl|apply p_fieldAddrB<;>rfl|apply p_indexAddrS;(case hx|hi=>rfl);(case h0|h=>omega);(case hA=>(apply_assumption;omega))|apply p_build;(case hz=>rfl);(case hv=>(simp only [List.map_cons,List.map_nil];repeat (first|with_reducible exact evs_nil|apply evs_cons;(case h1=>rfl))));(case hb=>(apply bldL;repeat (first|exact bld_nil|apply bld_cons;(case hpf|hc|hs|hl=>rfl);(case ho=>((repeat (first|with_reducible exact ov_nil|apply ov_cons));done)))))|fail);(case hd=>rfl)|apply v_condF;(case hc=>rfl)|apply v_cond;(case hc=>rfl);all_goals (intro h;(try simp only [reduceCtorEq,zzz] at h);try (exfalso;omega))|apply v_guardB;(case h1|h2=>rfl);all_goals (intro h;(try simp only [reduceCtorEq,zzz] at h);try (exfalso;omega))|apply v_read;(case hop=>(apply r_loadN;rfl;exact CellsAt.frozen hcx;rfl));(case hd=>rfl)|apply v_callJ (hs:=qc);(case ha|hd=>rfl)|apply v_callJ (hs:=qh);(case ha|hd=>rfl)|apply v_read;(case hop=>first|apply r_loadNo;(case hx=>rfl);(case h=>repeat exact mhd _);(case hd=>repeat first|with_reducible exact dt_nil|apply dt_here);(case hn=>rfl)|apply r_load1;rfl;(apply Cell.own;(case h=>repeat first|exact mhd _|apply mtl);rfl)|fail);(case hd=>rfl)|apply v_alloc;(case hz|hd=>rfl);intro b|apply v_store;(case hp|hx|hc|hsz|h1=>rfl);(case hb=>repeat exact mhd _);(case hfit=>exact nle rfl);(case hov=>((repeat (first|with_reducible exact ov_nil|apply ov_cons));done));(case hu=>repeat (exact Upd.here _ _))|fail)
   refine v_call (μ1:=[]) (μ2:=_) rfl qwa (List.Perm.refl _) rfl ?_
   rintro r G4 ν - ⟨rfl,hg⟩
   obtain ⟨A5,c5,rfl,-,-⟩:=hg.shape
   repeat' (first|apply v_region|apply v_nil|apply v_blk|apply v_pure;(case hop=>first|apply p_move<;>rfl|apply p_assign<;>rfl|apply p_fieldAddrB<;>rfl|apply p_add;(case hx|hy=>rfl);(case h=>omega)|fail);(case hd=>rfl)|apply v_store;(case hp|hx|hc|hsz|h1=>rfl);(case hb=>repeat first|exact mhd _|apply mtl|apply List.mem_append_right);(case hfit=>exact nle rfl);(case hov=>((repeat (first|with_reducible exact ov_nil|apply ov_cons));done));(case hu=>repeat first|exact Upd.here _ _|apply Upd.there|apply Upd.app)|fail)
   refine v_frz ν (by repeat (exact PickA.here _)) ?_
   intro G5 hle5 hG5
   refine v_drop (ν:=[(hb,_),(ob,_)]) (by repeat (first|exact List.Sublist.refl _|apply List.Sublist.cons)) ?_
   refine v_again rfl ⟨GH.le_trans hle hle5,k+1,_,by omega,rfl,rfl,?_,ht'⟩ (by simp [headI];omega)
   rw [hfc,hfa]
   rw [hfa] at ht'
   exact ⟨_,_,_,rfl,hi2.mono hle5,es_of_grow hg hG5 ht'.oa,esle hc hle5⟩
  ·have k3:x.kind=3:=by omega
   have ea:accS H.base acc x=acc:=by rw [accS,if_neg fun h=>k2 h.2.1]
   rw [ea] at hfa
   by_cases hb3:hitB cho x.index=true
   ·have ec:choS H.base cho x=cho:=by rw [choS,if_pos ⟨hv,k3,hlb⟩,insN,if_pos (show ∃ y∈cho,y.index=(entOf x).index from hbi.1 hb3)]
    rw [ec] at hfc
    rw [if_pos hb3] at qf
    have hfin:HdV G3 ⟨H.pr,H.pn,H.base,H.image,(l.take (k+1)).foldl (accS H.base) [],(l.take (k+1)).foldl (choS H.base) []⟩ (hdL H.pr H.pn H.base (.slice A0 H.image.length c0) (.slice A1 acc.length c1) (.slice A2 cho.length c2)):=by rw [hfa,hfc];exact ⟨_,_,_,rfl,hi2,ha,hc⟩
    repeat' (first|apply v_seq|apply v_region|apply v_nil|apply v_skip|apply v_block|apply v_blk|apply v_take;(case hg=>rfl)|apply v_pure;(case hop=>first|apply p_move<;>rfl|apply p_nes<;>rfl|apply p_eq<;>rfl|apply p_lt<;>rfl|apply p_le<;>rfl|apply p_assign<;>rfl|apply p_pickF<;>rfl|apply p_not<;>rfl|apply p_lenSlice<;>rfl|apply p_fieldAddrB<;>rfl|apply p_add;(case hx|hy=>rfl);(case h=>omega)|apply p_indexAddrS;(case hx|hi=>rfl);(case h0|h=>omega);(case hA=>(apply_assumption;omega))|apply p_build;(case hz=>rfl);(case hv=>(simp only [List.map_cons,List.map_nil];repeat (first|with_reducible exact evs_nil|apply evs_cons;(case h1=>rfl))));(case hb=>(apply bldL;repeat (first|exact bld_nil|apply bld_cons;(case hpf|hc|hs|hl=>rfl);(case ho=>((repeat (first|with_reducible exact ov_nil|apply ov_cons));done)))))|fail);(case hd=>rfl)|apply v_condF;(case hc=>rfl)|apply v_cond;(case hc=>rfl);all_goals (intro h;(try simp only [reduceCtorEq,zzz] at h);try (exfalso;omega))|apply v_guardB;(case h1|h2=>rfl);all_goals (intro h;(try simp only [reduceCtorEq,zzz] at h);try (exfalso;omega))|apply v_read;(case hop=>(apply r_loadN;rfl;exact CellsAt.frozen hcx;rfl));(case hd=>rfl)|apply v_callJ (hs:=qc);(case ha|hd=>rfl)|apply v_callJ (hs:=qh);(case ha|hd=>rfl)|apply v_callJ (hs:=qf);(case ha|hd=>rfl)|apply v_read;(case hop=>first|apply r_loadNo;(case hx=>rfl);(case h=>repeat exact mhd _);(case hd=>repeat first|with_reducible exact dt_nil|apply dt_here);(case hn=>rfl)|apply r_load1;rfl;(apply Cell.own;(case h=>repeat first|exact mhd _|apply mtl);rfl)|fail);(case hd=>rfl)|apply v_alloc;(case hz|hd=>rfl);intro b|apply v_store;(case hp|hx|hc|hsz|h1=>rfl);(case hb=>repeat exact mhd _);(case hfit=>exact nle rfl);(case hov=>((repeat (first|with_reducible exact ov_nil|apply ov_cons));done));(case hu=>repeat (exact Upd.here _ _))|fail)
    refine v_drop (ν:=[(hb,_),(ob,_)]) (by repeat (first|exact List.Sublist.refl _|apply List.Sublist.cons)) ?_
    refine v_again rfl ⟨hle,k+1,_,by omega,rfl,rfl,hfin,ht'⟩ (by simp [headI];omega)
   ·have ec:choS H.base cho x=withL cho (entOf x):=by rw [choS,if_pos ⟨hv,k3,hlb⟩,insN,if_neg (show ¬ ∃ y∈cho,y.index=(entOf x).index from fun h=>hb3 (hbi.2 h)),hwc]
    rw [ec] at hfc
    rw [if_neg hb3] at qf
    repeat' (first|apply v_seq|apply v_region|apply v_nil|apply v_skip|apply v_block|apply v_take;(case hg=>rfl)|apply v_pure;(case hop=>first|apply p_move<;>rfl|apply p_nes<;>rfl|apply p_eq<;>rfl|apply p_lt<;>rfl|apply p_le<;>rfl|apply p_pickF<;>rfl|apply p_not<;>rfl|apply p_lenSlice<;>rfl|apply p_fieldAddrB<;>rfl|apply p_indexAddrS;(case hx|hi=>rfl);(case h0|h=>omega);(case hA=>(apply_assumption;omega))|apply p_build;(case hz=>rfl);(case hv=>(simp only [List.map_cons,List.map_nil];repeat (first|with_reducible exact evs_nil|apply evs_cons;(case h1=>rfl))));(case hb=>(apply bldL;repeat (first|exact bld_nil|apply bld_cons;(case hpf|hc|hs|hl=>rfl);(case ho=>((repeat (first|with_reducible exact ov_nil|apply ov_cons));done)))))|fail);(case hd=>rfl)|apply v_condF;(case hc=>rfl)|apply v_cond;(case hc=>rfl);all_goals (intro h;(try simp only [reduceCtorEq,zzz] at h);try (exfalso;omega))|apply v_guardB;(case h1|h2=>rfl);all_goals (intro h;(try simp only [reduceCtorEq,zzz] at h);try (exfalso;omega))|apply v_read;(case hop=>(apply r_loadN;rfl;exact CellsAt.frozen hcx;rfl));(case hd=>rfl)|apply v_callJ (hs:=qc);(case ha|hd=>rfl)|apply v_callJ (hs:=qh);(case ha|hd=>rfl)|apply v_callJ (hs:=qf);(case ha|hd=>rfl)|apply v_read;(case hop=>first|apply r_loadNo;(case hx=>rfl);(case h=>repeat exact mhd _);(case hd=>repeat first|with_reducible exact dt_nil|apply dt_here);(case hn=>rfl)|apply r_load1;rfl;(apply Cell.own;(case h=>repeat first|exact mhd _|apply mtl);rfl)|fail);(case hd=>rfl)|apply v_alloc;(case hz|hd=>rfl);intro b|apply v_store;(case hp|hx|hc|hsz|h1=>rfl);(case hb=>repeat exact mhd _);(case hfit=>exact nle rfl);(case hov=>((repeat (first|with_reducible exact ov_nil|apply ov_cons));done));(case hu=>repeat (exact Upd.here _ _))|fail)
    refine v_call (μ1:=[]) (μ2:=_) rfl qwc (List.Perm.refl _) rfl ?_
    rintro r G4 ν - ⟨rfl,hg⟩
    obtain ⟨A5,c5,rfl,-,-⟩:=hg.shape
    repeat' (first|apply v_region|apply v_nil|apply v_blk|apply v_pure;(case hop=>first|apply p_move<;>rfl|apply p_assign<;>rfl|apply p_fieldAddrB<;>rfl|apply p_add;(case hx|hy=>rfl);(case h=>omega)|fail);(case hd=>rfl)|apply v_store;(case hp|hx|hc|hsz|h1=>rfl);(case hb=>repeat first|exact mhd _|apply mtl|apply List.mem_append_right);(case hfit=>exact nle rfl);(case hov=>((repeat (first|with_reducible exact ov_nil|apply ov_cons));done));(case hu=>repeat first|exact Upd.here _ _|apply Upd.there|apply Upd.app)|fail)
    refine v_frz ν (by repeat (exact PickA.here _)) ?_
    intro G5 hle5 hG5
    refine v_drop (ν:=[(hb,_),(ob,_)]) (by repeat (first|exact List.Sublist.refl _|apply List.Sublist.cons)) ?_
    refine v_again rfl ⟨GH.le_trans hle hle5,k+1,_,by omega,rfl,rfl,?_,ht'⟩ (by simp [headI];omega)
    rw [hfc,hfa]
    rw [hfc] at ht'
    exact ⟨_,_,_,rfl,hi2.mono hle5,esle ha hle5,es_of_grow hg hG5 ht'.oc⟩
 ·obtain rfl:k=l.length:=by omega
  rw [List.take_length] at ha hc ⊢
  repeat' (first|apply v_seq|apply v_region|apply v_nil|apply v_exit;(case hp=>rfl)|apply v_pure;(case hop=>first|apply p_move<;>rfl|apply p_lt<;>rfl|apply p_lenSlice<;>rfl|fail);(case hd=>rfl)|apply v_cond;(case hc=>rfl);all_goals (intro h;(try simp only [reduceCtorEq,zzz] at h);try (exfalso;omega))|apply v_read;(case hop=>(apply r_loadNo;(case hx=>rfl);(case h=>repeat exact mhd _);(case hd=>repeat first|with_reducible exact dt_nil|apply dt_here);(case hn=>rfl)));(case hd=>rfl)|apply v_store;(case hp|hx|hc|hsz|h1=>rfl);(case hb=>repeat first|exact mhd _|apply mtl);(case hfit=>exact nle rfl);(case hov=>((repeat (first|with_reducible exact ov_nil|apply ov_cons));done));(case hu=>repeat first|exact Upd.here _ _|apply Upd.there)|fail)
  refine v_retM [] (outsM_cell (vs:=hdL H.pr H.pn H.base (.slice A0 H.image.length c0) (.slice A1 (l.foldl (accS H.base) []).length c1) (.slice A2 (l.foldl (choS H.base) []).length c2)) (e:=27) rfl rfl (by repeat (first|exact mhd _|apply mtl)) rfl) (by repeat (exact List.nil_sublist _)) ?_
  exact ⟨rfl,_,rfl,_,_,_,rfl,hi2,ha,hc⟩
theorem hSame_s {G:GH}{H:Hd}{L L':List Value}(h1:HdV G H L) (h2:HdV G H L'):Con Tryz.prog 22 #[.agg L.toArray,.agg L'.toArray] G [] (Just (.bool true) G):=by
 obtain ⟨iv,av,cv,rfl,hi,ha,hc⟩:=h1
 obtain ⟨iv',av',cv',rfl,hi',ha',hc'⟩:=h2
 have q1:=bSame_s hi hi'
 have q2:=entSame_s ha ha'
 have q3:=entSame_s hc hc'
 rw [decide_eq_true rfl] at q1 q2 q3
 obtain ⟨A0,c0,rfl,-⟩:=hi.openInt
 obtain ⟨A1,c1,rfl,-⟩:=ha.open
 obtain ⟨A2,c2,rfl,-⟩:=hc.open
 obtain ⟨B0,d0,rfl,-⟩:=hi'.openInt
 obtain ⟨B1,d1,rfl,-⟩:=ha'.open
 obtain ⟨B2,d2,rfl,-⟩:=hc'.open
 apply Con.just
 (refine v_enter Tryz.func22 rfl Tryz.ntmps22 rfl ?_;intro B _)
 repeat' (first|apply v_pure;(case hop=>(apply eqBal;(case hx|hy=>rfl)));(case hd=>rfl)|apply v_seq|apply v_region|apply v_nil|apply v_take;(case hg=>rfl)|apply v_pass;(case hg|hn|hd=>rfl)|apply v_pure;(case hop=>first|apply p_move<;>rfl|apply p_eqs<;>rfl|apply p_assign<;>rfl|apply p_pickT<;>rfl|apply p_pickF<;>rfl|apply p_fieldAddrB<;>rfl|fail);(case hd=>rfl)|apply v_guardB;(case h1|h2=>rfl);all_goals (intro h;(try simp only [reduceCtorEq,zzz] at h))|apply v_callJ (hs:=q1);(case ha|hd=>rfl)|apply v_callJ (hs:=q2);(case ha|hd=>rfl)|apply v_callJ (hs:=q3);(case ha|hd=>rfl)|apply v_read;(case hop=>first|apply r_loadNo;(case hx=>rfl);(case h=>repeat first|exact mhd _|apply mtl);(case hd=>repeat first|with_reducible exact dt_nil|apply dt_here);(case hn=>rfl)|apply r_load1;rfl;(apply Cell.own;(case h=>repeat first|exact mhd _|apply mtl);rfl)|fail);(case hd=>rfl)|apply v_box;(case hx|hz|hd=>rfl);intro b|fail)
 ·refine v_ret [] (outsA1 rfl rfl) (by repeat (exact List.nil_sublist _)) ?_
  exact ⟨rfl,rfl⟩
 ·exact absurd ⟨trivial,trivial⟩ ‹¬ (True∧True)›
noncomputable instance:DecidableEq Hd:=fun a b=>Classical.propDecidable (a=b)
theorem hd_eq (a b:Hd):a=b↔(a.pr=b.pr∧a.pn=b.pn)∧a.base=b.base∧a.image=b.image∧a.acc=b.acc∧a.cho=b.cho:=by
 cases a;cases b
 simp only [Hd.mk.injEq]
 constructor
 ·rintro ⟨h1,h2,h3,h4,h5,h6⟩;exact ⟨⟨h1,h2⟩,h3,h4,h5,h6⟩
 ·rintro ⟨⟨h1,h2⟩,h3,h4,h5,h6⟩;exact ⟨h1,h2,h3,h4,h5,h6⟩
theorem hSameB_s {G:GH}{H H':Hd}{L L':List Value}(h1:HdV G H L) (h2:HdV G H' L'):Con Tryz.prog 22 #[.agg L.toArray,.agg L'.toArray] G [] (Just (.bool (decide (H=H'))) G):=by
 obtain ⟨iv,av,cv,rfl,hi,ha,hc⟩:=h1
 obtain ⟨iv',av',cv',rfl,hi',ha',hc'⟩:=h2
 have q1:=bSame_s hi hi'
 have q2:=entSame_s ha ha'
 have q3:=entSame_s hc hc'
 have he:=hd_eq H H'
 obtain ⟨A0,c0,rfl,-⟩:=hi.openInt
 obtain ⟨A1,c1,rfl,-⟩:=ha.open
 obtain ⟨A2,c2,rfl,-⟩:=hc.open
 obtain ⟨B0,d0,rfl,-⟩:=hi'.openInt
 obtain ⟨B1,d1,rfl,-⟩:=ha'.open
 obtain ⟨B2,d2,rfl,-⟩:=hc'.open
 generalize hb1:decide (H.image=H'.image)=b1 at *
 generalize hb2:decide (H.acc=H'.acc)=b2 at *
 generalize hb3:decide (H.cho=H'.cho)=b3 at *
 apply Con.just
 (refine v_enter Tryz.func22 rfl Tryz.ntmps22 rfl ?_;intro B _)
 repeat' (first|apply v_pure;(case hop=>(apply eqBal;(case hx|hy=>rfl)));(case hd=>rfl)|apply v_seq|apply v_region|apply v_nil|apply v_take;(case hg=>rfl)|apply v_pass;(case hg|hn|hd=>rfl)|apply v_pure;(case hop=>first|apply p_move<;>rfl|apply p_eq<;>rfl|apply p_assign<;>rfl|apply p_pickT<;>rfl|apply p_pickF<;>rfl|apply p_fieldAddrB<;>rfl|fail);(case hd=>rfl)|apply v_guardB;(case h1|h2=>rfl);all_goals (intro h;(try simp only [reduceCtorEq,zzz] at h))|apply v_callJ (hs:=q1);(case ha|hd=>rfl)|apply v_callJ (hs:=q2);(case ha|hd=>rfl)|apply v_callJ (hs:=q3);(case ha|hd=>rfl)|apply v_read;(case hop=>first|apply r_loadNo;(case hx=>rfl);(case h=>repeat first|exact mhd _|apply mtl);(case hd=>repeat first|with_reducible exact dt_nil|apply dt_here);(case hn=>rfl)|apply r_load1;rfl;(apply Cell.own;(case h=>repeat first|exact mhd _|apply mtl);rfl)|fail);(case hd=>rfl)|apply v_box;(case hx|hz|hd=>rfl);intro b|fail)
 all_goals
  (refine v_ret [] (outsA1 rfl rfl) (by repeat (exact List.nil_sublist _)) ?_
   refine ⟨?_,rfl⟩
   cases b3
   all_goals first
    |(cases h;done)
    |(rw [decide_eq_true];rw [he];exact ⟨by assumption,by assumption,of_decide_eq_true (hb1.trans (by assumption)),of_decide_eq_true (hb2.trans (by assumption)),of_decide_eq_true hb3⟩)
    |(rw [decide_eq_false];rw [he];rintro ⟨g1,g2,g3,g4,g5⟩;first|contradiction|(rw [decide_eq_true g3] at hb1;subst hb1;contradiction)|(rw [decide_eq_true g4] at hb2;subst hb2;contradiction)|(rw [decide_eq_true g5] at hb3;cases hb3;done))
    | skip)
theorem hClone_s {G:GH}{H:Hd}{L:List Value}(hh:HdV G H L) (h1:H.image.length≤40000) (h2:H.acc.length≤200) (h3:H.cho.length≤200) (o2:∀ e∈H.acc,e.ok) (o3:∀ e∈H.cho,e.ok) :
 Con Tryz.prog 70 #[.agg L.toArray] G [] (fun r G' μ'=>μ'=[]∧∃ L',r=.agg L'.toArray∧HdV G' H L'):=by
 obtain ⟨im,av,cv,rfl,hi,ha,hc⟩:=hh
 have q1:=bclone_s hi (by omega)
 have q2:=entClone_s ha (by omega)
 have q3:=entClone_s hc (by omega)
 obtain ⟨A0,c0,rfl,-,-,-,-,hwx⟩:=id hi.openInt
 obtain ⟨A1,c1,rfl,-⟩:=id ha.open
 obtain ⟨A2,c2,rfl,-⟩:=id hc.open
 (refine v_enter Tryz.func70 rfl Tryz.ntmps70 rfl ?_;intro B _)
 repeat' (first|apply v_seq|apply v_region|apply v_nil|apply v_pure;(case hop=>(apply p_fieldAddrB<;>rfl));(case hd=>rfl)|apply v_read;(case hop=>(apply r_load1;rfl;(apply Cell.own;(case h=>repeat first|exact mhd _|apply mtl);rfl)));(case hd=>rfl)|apply v_alloc;(case hz|hd=>rfl);intro b|apply v_box;(case hx|hz|hd=>rfl);intro b|fail)
 refine v_call (μ1:=[]) (μ2:=_) rfl q1 (List.Perm.refl _) rfl ?_
 rintro r1 _ ν1 - ⟨rfl,hg1⟩
 obtain ⟨A4,c4,rfl,-,-⟩:=hg1.shape
 repeat' (first|apply v_seq|apply v_region|apply v_nil|apply v_pure;(case hop=>(apply p_fieldAddrB<;>rfl));(case hd=>rfl)|apply v_read;(case hop=>(apply r_load1;rfl;(apply Cell.own;(case h=>repeat first|exact mhd _|apply mtl|apply List.mem_append_right);rfl)));(case hd=>rfl)|apply v_store;(case hp|hx|hc|hsz|h1=>rfl);(case hb=>repeat first|exact mhd _|apply mtl|apply List.mem_append_right);(case hfit=>exact nle rfl);(case hov=>((repeat (first|with_reducible exact ov_nil|apply ov_cons));done));(case hu=>repeat first|exact Upd.here _ _|apply Upd.there|apply Upd.app)|fail)
 refine v_call (μ1:=[]) (μ2:=_) rfl q2 (List.Perm.refl _) rfl ?_
 rintro r2 _ ν2 - ⟨rfl,hg2⟩
 obtain ⟨A5,c5,rfl,-,-⟩:=hg2.shape
 repeat' (first|apply v_seq|apply v_region|apply v_nil|apply v_pure;(case hop=>(apply p_fieldAddrB<;>rfl));(case hd=>rfl)|apply v_read;(case hop=>(apply r_load1;rfl;(apply Cell.own;(case h=>repeat first|exact mhd _|apply mtl|apply List.mem_append_right);rfl)));(case hd=>rfl)|apply v_store;(case hp|hx|hc|hsz|h1=>rfl);(case hb=>repeat first|exact mhd _|apply mtl|apply List.mem_append_right);(case hfit=>exact nle rfl);(case hov=>((repeat (first|with_reducible exact ov_nil|apply ov_cons));done));(case hu=>repeat first|exact Upd.here _ _|apply Upd.there|apply Upd.app)|fail)
 refine v_call (μ1:=[]) (μ2:=_) rfl q3 (List.Perm.refl _) rfl ?_
 rintro r3 _ ν3 - ⟨rfl,hg3⟩
 obtain ⟨A6,c6,rfl,-,-⟩:=hg3.shape
 repeat' (first|apply v_seq|apply v_region|apply v_nil|apply v_pure;(case hop=>(apply p_fieldAddrB<;>rfl));(case hd=>rfl)|apply v_read;(case hop=>(apply r_loadNo;(case hx=>rfl);(case h=>repeat first|exact mhd _|apply mtl|apply List.mem_append_right);(case hd=>repeat first|with_reducible exact dt_nil|apply dt_here);(case hn=>rfl)));(case hd=>rfl)|apply v_store;(case hp|hx|hc|hsz|h1=>rfl);(case hb=>repeat first|exact mhd _|apply mtl|apply List.mem_append_right);(case hfit=>exact nle rfl);(case hov=>((repeat (first|with_reducible exact ov_nil|apply ov_cons));done));(case hu=>repeat first|exact Upd.here _ _|apply Upd.there|apply Upd.app)|fail)
 refine v_frz ν3 (by repeat (exact PickA.here _)) ?_
 intro G2 hle2 hG2
 refine v_frz ν2 (by repeat (exact PickA.here _)) ?_
 intro G3 hle3 hG3
 refine v_frz ν1 (by repeat (exact PickA.here _)) ?_
 intro G4 hle4 hG4
 have k1:=hg1.ints hG4 hwx
 have k2:=esle (es_of_grow hg2 hG3 o2) hle4
 have k3:=esle (es_of_grow hg3 hG2 o3) (GH.le_trans hle3 hle4)
 refine v_retM [] (outsM_cell (vs:=hdL H.pr H.pn H.base (.slice A4 H.image.length c4) (.slice A5 H.acc.length c5) (.slice A6 H.cho.length c6)) (e:=27) rfl rfl (by repeat (exact mhd _)) rfl) (by repeat (exact List.nil_sublist _)) ?_
 exact ⟨rfl,_,rfl,_,_,_,rfl,k1,k2,k3⟩
theorem hApply_s {G:GH}(hT:TabsG G) {H:Hd}{L:List Value}{x:Rc}{xv:Value}{n:Nat}(hh:HdV G H L) (g:Good n H) (hn:n≤200) (hx:RcV G x xv) (hc:x.cmd.ok) :
 Con Tryz.prog 72 #[.agg L.toArray,xv] G [] (fun r G' μ'=>μ'=[]∧∃ L',r=.agg L'.toArray∧HdV G' (stepH H x) L'):=by
 have q1:=hClone_s hh (by have:=g.img;omega) (by have:=g.nacc;omega) (by have:=g.ncho;omega) (fun e he=>(g.acc e he).2.1) (fun e he=>(g.cho e he).2.1)
 obtain ⟨iv,rfl,hxv⟩:=hx
 obtain ⟨A3,c3,rfl,hl3,hm3,-⟩:=id hxv.openInt
 simp only [maxLen] at hm3
 obtain ⟨im,av,cv,rfl,hi,ha,hcv⟩:=id hh
 obtain ⟨A0,c0,rfl,-⟩:=id hi.openInt
 obtain ⟨A1,c1,rfl,-⟩:=id ha.open
 obtain ⟨A2,c2,rfl,-⟩:=id hcv.open
 have him:x.image.length≤9223372036854775807:=by omega
 (refine v_enter Tryz.func72 rfl Tryz.ntmps72 rfl ?_;intro B _)
 repeat' (first|apply v_box (zs:=recL x.kind x.round x.node x.index x.cmd (.slice A3 x.image.length c3));(case hx|hz|hd=>rfl);intro xb|apply v_seq|apply v_region|apply v_nil|apply v_read;(case hop=>(apply r_loadNo;(case hx=>rfl);(case h=>repeat first|exact mhd _|apply mtl);(case hd=>repeat first|with_reducible exact dt_nil|apply dt_here);(case hn=>rfl)));(case hd=>rfl)|apply v_alloc;(case hz|hd=>rfl);intro b|apply v_box;(case hx|hz|hd=>rfl);intro b|fail)
 refine v_call (μ1:=[]) (μ2:=_) rfl q1 (List.Perm.refl _) rfl ?_
 rintro r1 G1 _ hle1 ⟨rfl,L1,rfl,hh1⟩
 have hx1:RcV G1 x (.agg (recL x.kind x.round x.node x.index x.cmd (.slice A3 x.image.length c3)).toArray):=⟨_,rfl,hxv.mono hle1⟩
 have qc:=recCheck_s (hT.le hle1) x.kind x.round x.node x.index x.cmd hc A3 x.image.length c3 him
 obtain ⟨im1,av1,cv1,rfl,hi1,ha1,hcv1⟩:=id hh1
 obtain ⟨B0,d0,rfl,-⟩:=id hi1.openInt
 obtain ⟨B1,d1,rfl,-⟩:=id ha1.open
 obtain ⟨B2,d2,rfl,-⟩:=id hcv1.open
 by_cases hv:chkI x=0
 ·have q2:=fun sb=>change_s (G:=G1) sb hh1 g hn hx1 hv hc
  have es:stepH H x=chg H x:=by unfold stepH;rw [if_pos hv]
  rw [es]
  rw [show recI x.kind x.round x.node x.index x.cmd x.image.length=0 from hv] at qc
  repeat' (first|apply v_seq|apply v_region|apply v_nil|apply v_pure;(case hop=>first|apply p_move<;>rfl|apply p_eqs<;>rfl|apply p_assign<;>rfl|apply p_build;(case hz=>rfl);(case hv=>(simp only [List.map_cons,List.map_nil];repeat (first|with_reducible exact evs_nil|apply evs_cons;(case h1=>rfl))));(case hb=>(apply bldL;repeat (first|exact bld_nil|apply bld_cons;(case hpf|hc|hs|hl=>rfl);(case ho=>((repeat (first|with_reducible exact ov_nil|apply ov_cons));done)))))|fail);(case hd=>rfl)|apply v_condT;(case hc=>rfl)|apply v_callJ (hs:=qc);(case ha|hd=>rfl)|apply v_read;(case hop=>(apply r_loadNo;(case hx=>rfl);(case h=>repeat first|exact mhd _|apply mtl);(case hd=>repeat first|with_reducible exact dt_nil|apply dt_here);(case hn=>rfl)));(case hd=>rfl)|apply v_box;(case hx|hz|hd=>rfl);intro b|fail)
  refine v_call (μ1:=[(b,_)]) (μ2:=_) rfl (q2 b) (List.Perm.refl _) rfl ?_
  rintro _ G3 _ hle3 ⟨L3,rfl,hh3⟩
  obtain ⟨im3,av3,cv3,rfl,hi3,ha3,hcv3⟩:=id hh3
  obtain ⟨C0,u0,rfl,-⟩:=id hi3.openInt
  obtain ⟨C1,u1,rfl,-⟩:=id ha3.open
  obtain ⟨C2,u2,rfl,-⟩:=id hcv3.open
  repeat' (first|apply v_seq|apply v_region|apply v_nil|apply v_pure;(case hop=>first|apply p_move<;>rfl|apply p_fieldAddrB<;>rfl|apply p_nilCheck<;>rfl|fail);(case hd=>rfl)|apply v_read;(case hop=>(apply r_loadNo;(case hx=>rfl);(case h=>repeat exact mhd _);(case hd=>repeat first|with_reducible exact dt_nil|apply dt_here);(case hn=>rfl)));(case hd=>rfl)|apply v_store;(case hp|hx|hc|hsz|h1=>rfl);(case hb=>repeat first|exact mhd _|apply mtl);(case hfit=>exact nle rfl);(case hov=>((repeat (first|with_reducible exact ov_nil|apply ov_cons));done));(case hu=>repeat first|exact Upd.here _ _|apply Upd.there)|fail)
  refine v_retM [] (outsM_cell (vs:=hdL (chg H x).pr (chg H x).pn (chg H x).base (.slice C0 (chg H x).image.length u0) (.slice C1 (chg H x).acc.length u1) (.slice C2 (chg H x).cho.length u2)) (e:=27) rfl rfl (by repeat (first|exact mhd _|apply mtl)) rfl) (by repeat (exact List.nil_sublist _)) ?_
  exact ⟨rfl,_,rfl,hh3⟩
 ·have es:stepH H x=H:=by unfold stepH;rw [if_neg hv]
  rw [es]
  have hv':¬ recI x.kind x.round x.node x.index x.cmd x.image.length=0:=hv
  generalize recI x.kind x.round x.node x.index x.cmd x.image.length=I at *
  repeat' (first|apply v_seq|apply v_region|apply v_nil|apply v_skip|apply v_pure;(case hop=>first|apply p_move<;>rfl|apply p_eq<;>rfl|apply p_assign<;>rfl|apply p_fieldAddrB<;>rfl|apply p_nilCheck<;>rfl|apply p_build;(case hz=>rfl);(case hv=>(simp only [List.map_cons,List.map_nil];repeat (first|with_reducible exact evs_nil|apply evs_cons;(case h1=>rfl))));(case hb=>(apply bldL;repeat (first|exact bld_nil|apply bld_cons;(case hpf|hc|hs|hl=>rfl);(case ho=>((repeat (first|with_reducible exact ov_nil|apply ov_cons));done)))))|fail);(case hd=>rfl)|apply v_cond;(case hc=>rfl);all_goals (intro h;(try simp only [reduceCtorEq,zzz] at h);try (exfalso;omega))|apply v_callJ (hs:=qc);(case ha|hd=>rfl)|apply v_read;(case hop=>(apply r_loadNo;(case hx=>rfl);(case h=>repeat first|exact mhd _|apply mtl);(case hd=>repeat first|with_reducible exact dt_nil|apply dt_here);(case hn=>rfl)));(case hd=>rfl)|apply v_box;(case hx|hz|hd=>rfl);intro b|apply v_store;(case hp|hx|hc|hsz|h1=>rfl);(case hb=>repeat first|exact mhd _|apply mtl);(case hfit=>exact nle rfl);(case hov=>((repeat (first|with_reducible exact ov_nil|apply ov_cons));done));(case hu=>repeat first|exact Upd.here _ _|apply Upd.there)|fail)
  refine v_retM [] (outsM_cell (vs:=hdL H.pr H.pn H.base (.slice B0 H.image.length d0) (.slice B1 H.acc.length d1) (.slice B2 H.cho.length d2)) (e:=27) rfl rfl (by repeat (first|exact mhd _|apply mtl)) rfl) (by repeat (exact List.nil_sublist _)) ?_
  exact ⟨rfl,_,rfl,hh1⟩
def hx1:Rc:=⟨1,3,1,0,zeroC,[]⟩
theorem hard_eq {l:List Rc}(hc:∀ x∈l,x.cmd.ok):(⟨(l.foldl r1 Hd.zero).pr,(l.foldl r1 Hd.zero).pn,(l.foldl r1 Hd.zero).base,(l.foldl r1 Hd.zero).image,l.foldl (accS (l.foldl r1 Hd.zero).base) [],l.foldl (choS (l.foldl r1 Hd.zero).base) []⟩:Hd)=hardOf l:=by
 have i:=hard_inv hc
 rw [i.pr,i.pn,i.base,i.image,← i.acc,← i.cho]
theorem flat_get {sz:Nat}:∀ {css:List (List Value)}{j:Nat}{u:Value},(∀ c∈css,c.length=sz)→css.flatten[j]? = some u→∃ i r cs,j=i*sz+r∧css[i]? = some cs∧cs[r]? = some u
 | [],j,u,_,h=>by simp at h
 | c::css,j,u,hs,h=>by
  rw [List.flatten_cons] at h
  have hc:=hs c (by simp)
  by_cases hj:j<c.length
  ·rw [List.getElem?_append_left hj] at h
   exact ⟨0,j,c,by rw [Nat.zero_mul,Nat.zero_add],rfl,h⟩
  ·rw [List.getElem?_append_right (by omega)] at h
   obtain ⟨i,r,cs,h1,h2,h3⟩:=flat_get (fun x hx=>hs x (List.mem_cons_of_mem _ hx)) h
   refine ⟨i+1,r,cs,?_,h2,h3⟩
   rw [Nat.add_mul,Nat.one_mul]
   omega
theorem flat_len {sz:Nat}:∀ {css:List (List Value)},(∀ c∈css,c.length=sz)→css.flatten.length=css.length*sz
 | [],_=>by simp
 | c::css,hs=>by
  rw [List.flatten_cons,List.length_append,hs c (by simp),flat_len fun x hx=>hs x (List.mem_cons_of_mem _ hx),List.length_cons,Nat.add_mul]
  omega
theorem rec_one {G:GH}{x:Rc}{cs:List Value}(h:RcR G x cs):cs.length=12∧cs.all Value.oneCell'=true:=by
 obtain ⟨iv,rfl,-,-,hi⟩:=h
 obtain ⟨A,c,rfl,-⟩:=hi.openInt
 exact ⟨rfl,rfl⟩
theorem rsFlat {G:GH}{v:Value}{l:List Rc}(hs:Rs G v l):∃ css:List (List Value),css.length=l.length∧(∀ (i:Nat) x cs,l[i]? = some x→css[i]? = some cs→RcR G x cs)∧(∀ μ,Go.Vx.Src G μ v l.length 12 css.flatten)∧css.flatten.all Value.oneCell'=true:=by
 obtain ⟨A,c,rfl,h1,h2,h3,h4⟩:=hs.open
 have key:∀ i,∃ cs:List Value,∀ x,l[i]? = some x→cs.length=12∧RcR G x cs∧CellsG G ((adr A).add (i*12)) cs:=fun i=>by
  cases hx:l[i]? with
  | none=>exact ⟨[],fun x h=>by cases h⟩
  | some y =>
   obtain ⟨cs,k1,k2,k3⟩:=h4 i y hx
   exact ⟨cs,fun x h=>by cases h;exact ⟨k1,k2,k3⟩⟩
 let f:=fun i=>Classical.choose (key i)
 have hf:∀ i x,l[i]? = some x→(f i).length=12∧RcR G x (f i)∧CellsG G ((adr A).add (i*12)) (f i):=fun i=>Classical.choose_spec (key i)
 have hget:∀ i cs,((List.range l.length).map f)[i]? = some cs→∃ x,l[i]? = some x∧cs=f i:=fun i cs hc=>by
  rw [List.getElem?_map] at hc
  obtain ⟨j,hj,rfl⟩:=Option.map_eq_some_iff.1 hc
  obtain ⟨hj1,hj2⟩:=List.getElem?_eq_some_iff.1 hj
  rw [List.length_range] at hj1
  rw [List.getElem_range] at hj2
  subst hj2
  exact ⟨_,List.getElem?_eq_getElem hj1,rfl⟩
 have hlen:∀ cs∈(List.range l.length).map f,cs.length=12:=fun cs hc=>by
  obtain ⟨i,hi,rfl⟩:=List.getElem_of_mem hc
  obtain ⟨x,hx,he⟩:=hget i _ (List.getElem?_eq_getElem hi)
  rw [he]
  exact (hf i x hx).1
 refine ⟨(List.range l.length).map f,by simp,fun i x cs hx hc=>?_,fun μ=>?_,?_⟩
 ·obtain ⟨y,hy,rfl⟩:=hget i cs hc
  exact (hf i x hx).2.1
 ·refine ⟨by rw [flat_len hlen];simp,A,c,rfl,fun h0=>?_⟩
  have hA:=h3 h0
  obtain ⟨a,rfl⟩:=Option.isSome_iff_exists.1 hA
  refine ⟨a,rfl,CellsAt.frozen fun j u hu=>?_⟩
  obtain ⟨i,r,cs,rfl,hi,hr⟩:=flat_get hlen hu
  obtain ⟨y,hy,rfl⟩:=hget i cs hi
  have:=(hf i y hy).2.2 r u hr
  rw [add_add] at this
  exact this
 ·rw [List.all_eq_true]
  intro u hu
  obtain ⟨cs,hcs,hu⟩:=List.mem_flatten.1 hu
  obtain ⟨i,hi,rfl⟩:=List.getElem_of_mem hcs
  obtain ⟨x,hx,he⟩:=hget i _ (List.getElem?_eq_getElem hi)
  rw [he] at hu
  exact List.all_eq_true.1 (rec_one (hf i x hx).2.1).2 u hu
theorem one_rs {G:GH}{b:Nat}{e:TypeId}{x:Rc}{rx:List Value}(h:G b=some (.cells rx.toArray e (0,0))) (hx:RcR G x rx):Rs G (.slice (some ⟨b,0,none⟩) 1 1) [x]:=by
 refine ⟨some ⟨b,0,none⟩,1,rfl,by simp,by simp [maxLen],fun _=>⟨_,rfl,fun i y hy=>?_⟩⟩
 have hi:i<1:=by
  have:=(List.getElem?_eq_some_iff.1 hy).1
  simpa using this
 obtain rfl:i=0:=by omega
 have:y=x:=by simpa using hy.symm
 subst this
 refine ⟨rx,(rec_one hx).1,hx,fun j v hv=>?_⟩
 rw [add_mk,add_mk,Nat.zero_add]
 simp only [GH.cell?,h,Option.isSome_none,Bool.false_eq_true,if_false]
 rw [List.getElem?_toArray]
 simpa using hv
theorem hardOf_snoc (l:List Rc) (x:Rc):hardOf (l++[x])=stepH (hardOf l) x:=by
 unfold hardOf
 rw [List.foldl_append]
 rfl
theorem zeroCm_okV:zeroCm.ok:=⟨by decide,by decide,by decide,by decide,by decide,by decide,by decide⟩
theorem chk_one {l:List Ent}(h:chkK l 0=0):∀ e∈l,oneI e=0:=fun e he=>by
 obtain ⟨i,hi,rfl⟩:=List.getElem_of_mem he
 exact chk_all (l.length-0) 0 rfl h i hi (by omega)
def CheckP (H:Hd):Prop:=mayP H.pr H.pn∧(0≤H.base∧H.base≤4294967296)∧H.image.length≤32768∧(0<H.base↔0<H.image.length)∧chkK H.acc 0=0∧chkK H.cho 0=0∧(∀ e∈H.acc,H.base<e.index∧e.round≠0∧¬ lessP H.pr H.pn e.round e.node)∧(∀ e∈H.cho,H.base<e.index∧e.round=0)
noncomputable instance (H:Hd):Decidable (CheckP H):=Classical.propDecidable _
theorem one_parts {e:Ent}(h:oneI e=0):1≤e.index∧e.index≤4294967296∧mayP e.round e.node∧cmdI e.cmd=0:=by
 unfold oneI at h
 split at h
 ·omega
 ·rename_i hc
  have h1:¬ e.index<1:=fun hh=>hc (.inl hh)
  have h2:¬ 4294967296<e.index:=fun hh=>hc (.inr (.inl hh))
  have h3:mayP e.round e.node:=Decidable.not_not.1 fun hh=>hc (.inr (.inr hh))
  exact ⟨by omega,by omega,h3,h⟩
def imgRec (b:Int) (im:List Int):Rc:=⟨4,0,0,b,zeroCm,im⟩
theorem img_ok {b:Int}{im:List Int}(hb:1≤b∧b≤4294967296) (hl:0<im.length∧im.length≤32768):chkI (imgRec b im)=0:=by
 show recI 4 0 0 b zeroCm im.length=0
 unfold recI ranP
 rw [if_neg (by omega),if_neg (fun hh=>hh ⟨fun h=>by omega,fun _=>hb⟩),if_neg (by omega),if_neg (by omega),if_neg]
 unfold othP
 rintro (⟨_,h⟩|⟨h,_⟩|⟨_,h⟩|h)
 ·exact h ⟨rfl,rfl⟩
 ·omega
 ·exact h rfl
 ·exact h ⟨fun _=>hl.1,fun _=>rfl⟩
theorem idx_s {G:GH}{l:List Ent}{sv:Value}(hs:Es G sv l) (f:FuncId) [Callable Tryz.prog f] (cap:List Value) (μ1:OH) (p:Ent→Bool) (hf:∀ e∈l,Con Tryz.prog f ([]++[Value.agg e.cells.toArray]++cap).toArray G μ1 (Keeps (.bool (p e)) G μ1)) :
 Con Tryz.prog 128 #[sv,.func (.func f) #[] cap.toArray] G μ1 (fun r G' μ'=>G'=G∧μ'=μ1∧∃ z,r=.int .i64 z∧(0≤z↔l.any p=true) ∧ -1≤z):=by
 obtain ⟨A,c,rfl,hlc,hcm,hsome,hcp,-,-,hok⟩:=esOpen hs
 simp only [maxLen] at hcm
 (refine v_enter Tryz.func128 rfl Tryz.ntmps128 rfl ?_;intro B _)
 repeat' (first|apply v_seq|apply v_region|apply v_nil|apply v_block|apply v_pure;(case hop=>first|apply p_move<;>rfl|apply p_assign<;>rfl|apply p_lenSlice<;>rfl|fail);(case hd=>rfl)|fail)
 refine v_loop [8,7,0,1] (fun us G' μ'=>G'=G∧μ'=μ1∧∃ k,k≤l.length∧us=[Value.int .i64 (k:Nat),.int .i64 (l.length:Nat),.slice A l.length c,.func (.func f) #[] cap.toArray]∧∀ i (h:i<l.length),i<k→p l[i]=false) (fun us=>l.length-(headI us).toNat) rfl ⟨rfl,rfl,0,by omega,rfl,by omega⟩ ?_
 rintro us G' μ' ⟨rfl,rfl,k,hk,rfl,hno⟩
 have e1:((k:Nat):Int).toNat=k:=by omega
 by_cases hlt:k<l.length
 ·have kc:=hcp k hlt
  have hfk:=hf _ (List.getElem_mem hlt)
  cases hpe:p l[k]
  ·rw [hpe] at hfk
   repeat' (first|apply v_seq|apply v_region|apply v_nil|apply v_skip|apply v_block|apply v_blk|apply v_pure;(case hop=>first|apply p_move<;>rfl|apply p_lt<;>rfl|apply p_assign<;>rfl|apply p_add;(case hx|hy=>rfl);(case h=>omega)|apply p_indexAddrS;(case hx|hi=>rfl);(case h0|h=>omega);(case hA=>(apply_assumption;omega))|fail);(case hd=>rfl)|apply v_condF;(case hc=>rfl)|apply v_cond;(case hc=>rfl);all_goals (intro h;(try simp only [reduceCtorEq,zzz] at h);try (exfalso;omega))|apply v_read;(case hop=>(apply r_loadN;rfl;exact CellsAt.frozen kc;rfl));(case hd=>rfl)|apply v_callCK (first:=[]) (captured:=cap) (hs:=hfk) (hx:=rfl) (ha:=rfl) (hp:=(by simp:List.Perm _ (_++[])));(case hd=>rfl)|fail)
   refine v_again rfl ⟨rfl,rfl,k+1,by omega,rfl,fun i h hi=>?_⟩ (by simp [headI];omega)
   by_cases hik:i=k
   ·subst hik;exact hpe
   ·exact hno i h (by omega)
  ·rw [hpe] at hfk
   repeat' (first|apply v_seq|apply v_region|apply v_nil|apply v_skip|apply v_block|apply v_pure;(case hop=>first|apply p_move<;>rfl|apply p_lt<;>rfl|apply p_assign<;>rfl|apply p_indexAddrS;(case hx|hi=>rfl);(case h0|h=>omega);(case hA=>(apply_assumption;omega))|fail);(case hd=>rfl)|apply v_condT;(case hc=>rfl)|apply v_cond;(case hc=>rfl);all_goals (intro h;(try simp only [reduceCtorEq,zzz] at h);try (exfalso;omega))|apply v_read;(case hop=>(apply r_loadN;rfl;exact CellsAt.frozen kc;rfl));(case hd=>rfl)|apply v_callCK (first:=[]) (captured:=cap) (hs:=hfk) (hx:=rfl) (ha:=rfl) (hp:=(by simp:List.Perm _ (_++[])));(case hd=>rfl)|fail)
   refine v_ret μ' (outsA1 rfl rfl) (List.Sublist.refl _) ?_
   refine ⟨rfl,rfl,_,rfl,⟨fun _=>?_,fun _=>by omega⟩,by omega⟩
   rw [List.any_eq_true]
   exact ⟨_,List.getElem_mem hlt,hpe⟩
 ·repeat' (first|apply v_seq|apply v_region|apply v_nil|apply v_exit;(case hp=>rfl)|apply v_pure;(case hop=>first|apply p_lt<;>rfl|apply p_assign<;>rfl|fail);(case hd=>rfl)|apply v_cond;(case hc=>rfl);all_goals (intro h;(try simp only [reduceCtorEq,zzz] at h);try (exfalso;omega))|fail)
  refine v_ret μ' (outsA1 rfl rfl) (List.Sublist.refl _) ?_
  refine ⟨rfl,rfl,_,rfl,⟨fun h=>by omega,fun h=>?_⟩,by omega⟩
  rw [List.any_eq_true] at h
  obtain ⟨e,he,h⟩:=h
  obtain ⟨i,hi,rfl⟩:=List.getElem_of_mem he
  rw [hno i hi (by omega)] at h
  cases h
theorem has_s {G:GH}{l:List Ent}{sv:Value}(hs:Es G sv l) (f:FuncId) [Callable Tryz.prog f] (cap:List Value) (μ1:OH) (p:Ent→Bool) (hf:∀ e∈l,Con Tryz.prog f ([]++[Value.agg e.cells.toArray]++cap).toArray G μ1 (Keeps (.bool (p e)) G μ1)) :
 Con Tryz.prog 85 #[sv,.func (.func f) #[] cap.toArray] G μ1 (Keeps (.bool (l.any p)) G μ1):=by
 have q:=idx_s hs f cap μ1 p hf
 apply Con.keeps
 (refine v_enter Tryz.func85 rfl Tryz.ntmps85 rfl ?_;intro B _)
 repeat' (first|apply v_seq|apply v_region|apply v_nil|apply v_pure;(case hop=>first|apply p_move<;>rfl|apply p_assign<;>rfl);(case hd=>rfl)|fail)
 refine v_call (μ1:=μ1) (μ2:=[]) rfl q (by simp) rfl ?_
 rintro _ G1 μ1 - ⟨rfl,rfl,z,rfl,hz,-⟩
 repeat' (first|apply v_nil|apply v_pure;(case hop=>first|apply p_ge<;>rfl|apply p_assign<;>rfl);(case hd=>rfl)|fail)
 refine v_ret μ1 (outsA1 rfl rfl) (List.sublist_append_left _ _) ?_
 refine ⟨?_,rfl⟩
 rw [dec_eq]
 congr 1
 rw [Bool.eq_iff_iff,decide_eq_true_iff,hz]
def accBad (H:Hd) (e:Ent):Bool:=decide (e.index≤H.base∨(e.round=0∧e.node=0)∨lessP H.pr H.pn e.round e.node)
def choBad (H:Hd) (e:Ent):Bool:=decide (e.index≤H.base∨¬ (e.round=0∧e.node=0))
theorem acc1_s (G:GH) (hb:Nat) (H:Hd) (iv av cv:Value) (x:Ent):Con Tryz.prog 82 #[.agg x.cells.toArray,.pointer (some ⟨hb,0,none⟩)] G [(hb,hardO (hdL H.pr H.pn H.base iv av cv))] (Keeps (.bool (accBad H x)) G [(hb,hardO (hdL H.pr H.pn H.base iv av cv))]):=by
 have ql:=less_s G H.pr H.pn x.round x.node
 unfold accBad
 generalize hlb:decide (lessP H.pr H.pn x.round x.node)=lb at *
 apply Con.keeps
 (refine v_enter Tryz.func82 rfl Tryz.ntmps82 rfl ?_;intro B _)
 repeat' (first|apply v_pure;(case hop=>(apply eqBal;(case hx|hy=>rfl)));(case hd=>rfl)|apply v_seq|apply v_region|apply v_nil|apply v_take;(case hg=>rfl)|apply v_pass;(case hg|hn|hd=>rfl)|apply v_pure;(case hop=>first|apply p_move<;>rfl|apply p_le<;>rfl|apply p_assign<;>rfl|apply p_pickT<;>rfl|apply p_pickF<;>rfl|apply p_fieldAddrB<;>rfl|apply p_build;(case hz=>rfl);(case hv=>(simp only [List.map_cons,List.map_nil];repeat (with_reducible exact evs_nil)));(case hb=>(apply bldL;repeat (exact bld_nil)))|fail);(case hd=>rfl)|apply v_guardB;(case h1|h2=>rfl);all_goals (intro h;(try simp only [reduceCtorEq,zzz] at h))|apply v_box (zs:=x.cells);(case hx|hz|hd=>rfl);intro b|apply v_callJ (hs:=ql);(case ha|hd=>rfl)|apply v_read;(case hop=>first|apply r_loadNo;(case hx=>rfl);(case h=>repeat first|exact mhd _|apply mtl);(case hd=>repeat first|with_reducible exact dt_nil|apply dt_here);(case hn=>rfl)|apply r_load1;rfl;(apply Cell.own;(case h=>repeat first|exact mhd _|apply mtl);rfl)|fail);(case hd=>rfl)|fail)
 all_goals
  (refine v_ret [(hb,_)] (outsA1 rfl rfl) (by repeat (first|exact List.Sublist.refl _|apply List.Sublist.cons)) ?_
   refine ⟨?_,rfl⟩)
 ·rw [decide_eq_true (.inl h)]
 ·rw [decide_eq_true (.inr (.inl h))]
 ·subst hlb
  congr 1
  rw [decide_eq_decide]
  exact ⟨fun hh=>.inr (.inr hh),fun hh=>by
   obtain hh|hh|hh:=hh
   ·contradiction
   ·contradiction
   ·exact hh⟩
theorem cho1_s (G:GH) (hb:Nat) (H:Hd) (iv av cv:Value) (x:Ent):Con Tryz.prog 84 #[.agg x.cells.toArray,.pointer (some ⟨hb,0,none⟩)] G [(hb,hardO (hdL H.pr H.pn H.base iv av cv))] (Keeps (.bool (choBad H x)) G [(hb,hardO (hdL H.pr H.pn H.base iv av cv))]):=by
 unfold choBad
 apply Con.keeps
 (refine v_enter Tryz.func84 rfl Tryz.ntmps84 rfl ?_;intro B _)
 repeat' (first|apply v_pure;(case hop=>(apply neBal;(case hx|hy=>rfl)));(case hd=>rfl)|apply v_seq|apply v_region|apply v_nil|apply v_take;(case hg=>rfl)|apply v_pass;(case hg|hn|hd=>rfl)|apply v_pure;(case hop=>first|apply p_move<;>rfl|apply p_le<;>rfl|apply p_assign<;>rfl|apply p_pickT<;>rfl|apply p_pickF<;>rfl|apply p_fieldAddrB<;>rfl|apply p_build;(case hz=>rfl);(case hv=>(simp only [List.map_cons,List.map_nil];repeat (with_reducible exact evs_nil)));(case hb=>(apply bldL;repeat (exact bld_nil)))|fail);(case hd=>rfl)|apply v_guardB;(case h1|h2=>rfl);all_goals (intro h;(try simp only [reduceCtorEq,zzz] at h))|apply v_box (zs:=x.cells);(case hx|hz|hd=>rfl);intro b|apply v_read;(case hop=>first|apply r_loadNo;(case hx=>rfl);(case h=>repeat exact mhd _);(case hd=>repeat first|with_reducible exact dt_nil|apply dt_here);(case hn=>rfl)|apply r_load1;rfl;(apply Cell.own;(case h=>repeat first|exact mhd _|apply mtl);rfl)|fail);(case hd=>rfl)|fail)
 all_goals
  (refine v_ret [(hb,_)] (outsA1 rfl rfl) (by repeat (first|exact List.Sublist.refl _|apply List.Sublist.cons)) ?_
   refine ⟨?_,rfl⟩)
 ·rw [decide_eq_true (.inl h)]
 ·congr 1
  rw [dec_eq,← decide_not,decide_eq_decide]
  exact ⟨fun hh=>.inr hh,fun hh=>by
   obtain hh|hh:=hh
   ·contradiction
   ·exact hh⟩
theorem chk_iff (H:Hd):CheckP H↔mayP H.pr H.pn∧¬ H.base<0∧¬ (H.base=0∧0<H.image.length)∧(0<H.base→recI 4 0 0 H.base zeroCm H.image.length=0)∧chkK H.acc 0=0∧chkK H.cho 0=0∧H.acc.any (accBad H)=false∧H.cho.any (choBad H)=false:=by
 constructor
 ·rintro ⟨h1,h2,h3,h4,h5,h6,h7,h8⟩
  refine ⟨h1,by omega,by omega,fun hb=>img_ok (b:=H.base) (im:=H.image) (by omega) (by omega),h5,h6,?_,?_⟩
  ·rw [List.any_eq_false]
   intro e he
   obtain ⟨a1,a2,a3⟩:=h7 e he
   unfold accBad
   rw [decide_eq_true_iff]
   rintro (h|h|h)
   ·omega
   ·exact a2 h.1
   ·exact a3 h
  ·rw [List.any_eq_false]
   intro e he
   obtain ⟨a1,a2⟩:=h8 e he
   have hm:=(one_parts (chk_one h6 e he)).2.2.1
   unfold mayP at hm
   unfold choBad
   rw [decide_eq_true_iff]
   omega
 ·rintro ⟨h1,h2,h3,h4,h5,h6,h7,h8⟩
  have hb:H.base≤4294967296∧H.image.length≤32768∧(0<H.base↔0<H.image.length):=by
   by_cases h0:0<H.base
   ·obtain ⟨-,r2,r3,-,r5⟩:=rec0 (h4 h0)
    have r2':=r2.2 (.inr (.inr rfl))
    have r6:(4:Int)=4↔0<H.image.length:=Decidable.not_not.1 fun hh=>r5 (.inr (.inr (.inr hh)))
    have:=r6.1 rfl
    omega
   ·omega
  refine ⟨h1,by omega,hb.2.1,hb.2.2,h5,h6,fun e he=>?_,fun e he=>?_⟩
  ·have ha:=List.any_eq_false.1 h7 e he
   have hm:=(one_parts (chk_one h5 e he)).2.2.1
   unfold accBad at ha
   rw [decide_eq_true_iff] at ha
   unfold mayP at hm
   exact ⟨by omega,by omega,fun h=>ha (.inr (.inr h))⟩
  ·have ha:=List.any_eq_false.1 h8 e he
   unfold choBad at ha
   rw [decide_eq_true_iff] at ha
   omega
theorem hChk_s {G:GH}(hT:TabsG G) {H:Hd}{L:List Value}(hh:HdV G H L):Con Tryz.prog 48 #[.agg L.toArray] G [] (Just (.int .i64 (if CheckP H then 0 else 3)) G):=by
 obtain ⟨iv,av,cv,rfl,hi,ha,hc⟩:=hh
 obtain ⟨A0,c0,rfl,hl0,hm0,-⟩:=hi.openInt
 simp only [maxLen] at hm0
 have qm:=may_s G H.pr H.pn
 have qr:=recCheck_s hT 4 0 0 H.base zeroCm zeroCm_okV A0 H.image.length c0 (by omega)
 have qa:=entCheck_s hT ha
 have qc:=entCheck_s hT hc
 have qA:=fun hb=>has_s ha 82 [.pointer (some ⟨hb,0,none⟩)] [(hb,hardO (hdL H.pr H.pn H.base (.slice A0 H.image.length c0) av cv))] (accBad H) (fun e _=>acc1_s G hb H (.slice A0 H.image.length c0) av cv e)
 have qC:=fun hb=>has_s hc 84 [.pointer (some ⟨hb,0,none⟩)] [(hb,hardO (hdL H.pr H.pn H.base (.slice A0 H.image.length c0) av cv))] (choBad H) (fun e _=>cho1_s G hb H (.slice A0 H.image.length c0) av cv e)
 have hiff:=chk_iff H
 obtain ⟨A1,c1,rfl,-⟩:=ha.open
 obtain ⟨A2,c2,rfl,-⟩:=hc.open
 generalize hb1:decide (mayP H.pr H.pn)=b1 at *
 generalize recI 4 0 0 H.base zeroCm H.image.length=I1 at *
 generalize chkK H.acc 0=I2 at *
 generalize chkK H.cho 0=I3 at *
 generalize hb4:H.acc.any (accBad H)=b4 at *
 generalize hb5:H.cho.any (choBad H)=b5 at *
 apply Con.just
 (refine v_enter Tryz.func48 rfl Tryz.ntmps48 rfl ?_;intro B _)
 repeat' (first|apply v_seq|apply v_region|apply v_nil|apply v_skip|apply v_take;(case hg=>rfl)|apply v_pass;(case hg|hn|hd=>rfl)|apply v_passN;(case hg|hn|hd=>rfl)|apply v_pure;(case hop=>first|apply p_move<;>rfl|apply p_eq<;>rfl|apply p_lt<;>rfl|apply p_gt<;>rfl|apply p_ne<;>rfl|apply p_assign<;>rfl|apply p_pickT<;>rfl|apply p_pickF<;>rfl|apply p_not<;>rfl|apply p_lenSlice<;>rfl|apply p_fieldAddrB<;>rfl|apply p_makeFunc<;>rfl|apply p_build;(case hz=>rfl);(case hv=>(simp only [List.map_cons,List.map_nil];repeat (first|with_reducible exact evs_nil|apply evs_cons;(case h1=>rfl))));(case hb=>(apply bldL;repeat (first|exact bld_nil|apply bld_cons;(case hpf|hc|hs|hl=>rfl);(case ho=>((repeat (first|with_reducible exact ov_nil|apply ov_cons));done)))))|fail);(case hd=>rfl)|apply v_condT;(case hc=>rfl)|apply v_condF;(case hc=>rfl)|apply v_cond;(case hc=>rfl);all_goals (intro h;(try simp only [reduceCtorEq,zzz] at h))|apply v_guardB;(case h1|h2=>rfl);all_goals (intro h;(try simp only [reduceCtorEq,zzz] at h);try (exfalso;omega))|apply v_callJ (hs:=qm);(case ha|hd=>rfl)|apply v_callJ (hs:=qr);(case ha|hd=>rfl)|apply v_callJ (hs:=qa);(case ha|hd=>rfl)|apply v_callJ (hs:=qc);(case ha|hd=>rfl)|apply v_callK (hs:=qA _);(case ha=>rfl);(case hp=>exact (Pick.perm (by repeat (exact Pick.here _))));(case hd=>rfl)|apply v_callK (hs:=qC _);(case ha=>rfl);(case hp=>exact (Pick.perm (by repeat (exact Pick.here _))));(case hd=>rfl)|apply v_read;(case hop=>first|apply r_loadNo;(case hx=>rfl);(case h=>repeat exact mhd _);(case hd=>repeat first|with_reducible exact dt_nil|apply dt_here);(case hn=>rfl)|apply r_load1;rfl;(apply Cell.own;(case h=>repeat exact mhd _);rfl)|fail);(case hd=>rfl)|apply v_box;(case hx|hz|hd=>rfl);intro b|fail)
 all_goals
  (refine v_ret [] (outsA1 rfl rfl) (by repeat (exact List.nil_sublist _)) ?_
   refine ⟨?_,rfl⟩
   first
    |(rw [if_pos (hiff.2 ⟨of_decide_eq_true (hb1.trans (by assumption)),by omega,by omega,fun _=>by omega,by assumption,by assumption,by assumption,by assumption⟩)];done)
    |(rw [if_neg (fun hh=>by
       obtain ⟨z1,z2,z3,z4,z5,z6,z7,z8⟩:=hiff.1 hh
       first
        | omega
        | exact absurd ((decide_eq_true z1).symm.trans (hb1.trans ‹b1=false›)) (by decide)
        | exact absurd (z7.symm.trans ‹b4=true›) (by decide)
        | exact absurd (z8.symm.trans ‹b5=true›) (by decide))];done)
    | skip)
def promRec (r n:Int):Rc:=⟨1,r,n,0,zeroC,[]⟩
def accRec (e:Ent):Rc:=⟨2,e.round,e.node,e.index,e.cmd,[]⟩
def choRec (e:Ent):Rc:=⟨3,0,0,e.index,e.cmd,[]⟩
def recsOf (H:Hd):List Rc:=(if 0<H.base then [imgRec H.base H.image] else [])++((if H.pr=0∧H.pn=0 then [] else [promRec H.pr H.pn])++(H.acc.map accRec++H.cho.map choRec))
theorem promRec_ok {r n:Int}(hm:mayP r n) (h:¬ (r=0∧n=0)):chkI (promRec r n)=0:=by
 show recI 1 r n 0 zeroC 0=0
 unfold recI ranP
 rw [if_neg (by omega),if_neg (fun hh=>hh ⟨fun _=>⟨hm,h⟩,fun h=>by omega⟩),if_neg (by omega),if_neg (by omega),if_neg]
 unfold othP
 rintro (⟨h,_⟩|⟨_,h⟩|⟨_,h⟩|h)
 ·exact h (.inl rfl)
 ·exact h rfl
 ·exact h rfl
 ·exact h ⟨fun h=>by omega,fun h=>by omega⟩
theorem accRec_ok {e:Ent}(h:oneI e=0) (hr:e.round≠0):chkI (accRec e)=0:=by
 obtain ⟨h1,h2,h3,h4⟩:=one_parts h
 show recI 2 e.round e.node e.index e.cmd 0=0
 unfold recI ranP
 rw [if_neg (by omega),if_neg (fun hh=>hh ⟨fun _=>⟨h3,fun h=>hr h.1⟩,fun _=>⟨h1,h2⟩⟩),if_neg (by omega),if_neg (fun hh=>hh.2 h4),if_neg]
 unfold othP
 rintro (⟨h,_⟩|⟨h,_⟩|⟨h,_⟩|h)
 ·exact h (.inr rfl)
 ·omega
 ·exact h (.inl rfl)
 ·exact h ⟨fun h=>by omega,fun h=>by omega⟩
theorem choRec_ok {e:Ent}(h:oneI e=0):chkI (choRec e)=0:=by
 obtain ⟨h1,h2,h3,h4⟩:=one_parts h
 show recI 3 0 0 e.index e.cmd 0=0
 unfold recI ranP
 rw [if_neg (by omega),if_neg (fun hh=>hh ⟨fun h=>by omega,fun _=>⟨h1,h2⟩⟩),if_neg (by omega),if_neg (fun hh=>hh.2 h4),if_neg]
 unfold othP
 rintro (⟨_,h⟩|⟨h,_⟩|⟨h,_⟩|h)
 ·exact h ⟨rfl,rfl⟩
 ·omega
 ·exact h (.inr rfl)
 ·exact h ⟨fun h=>by omega,fun h=>by omega⟩
theorem ins_last {x:Ent}:∀ {l:List Ent},(∀ y∈l,y.index<x.index)→ins x l=l++[x]
 | [],_=>rfl
 | y::l,h=>by rw [ins_cons,if_pos (h y List.mem_cons_self),ins_last fun z hz=>h z (List.mem_cons_of_mem _ hz)];rfl
theorem rise_split {l1 l2:List Ent}{e:Ent}(h:RiseL (l1++e::l2)):RiseL l1∧∀ y∈l1,y.index<e.index:=by
 have hp:=rise_pw.1 h
 rw [List.pairwise_append] at hp
 exact ⟨rise_pw.2 hp.1,fun y hy=>hp.2.2 y hy e List.mem_cons_self⟩
theorem acc_fold {r n b:Int}{im:List Int}:∀ (l2 l1:List Ent),RiseL (l1++l2)→(∀ e∈l2,oneI e=0∧b<e.index∧e.round≠0∧¬ lessP r n e.round e.node)→(l2.map accRec).foldl stepH ⟨r,n,b,im,l1,[]⟩=⟨r,n,b,im,l1++l2,[]⟩
 | [],l1,_,_=>by simp
 | e::l2,l1,hr,h=>by
  obtain ⟨a1,a2,a3,a4⟩:=h e List.mem_cons_self
  obtain ⟨r1,r2⟩:=rise_split hr
  have es:stepH ⟨r,n,b,im,l1,[]⟩ (accRec e)=⟨r,n,b,im,l1++[e],[]⟩:=by
   unfold stepH
   rw [if_pos (accRec_ok a1 a3)]
   unfold chg
   rw [if_neg (by simp [accRec]),if_pos (show (accRec e).kind=2 from rfl)]
   have ep:(⟨r,n,b,im,l1,[]⟩:Hd).prom (accRec e)=⟨r,n,b,im,l1,[]⟩:=by
    unfold Hd.prom
    rw [if_neg]
    exact a4
   rw [ep,if_pos (by exact a2),withL_ins r1]
   have eo:entOf (accRec e)=e:=rfl
   rw [eo,ins_last r2]
  rw [List.map_cons,List.foldl_cons,es,acc_fold l2 (l1++[e]) (by simpa using hr) fun x hx=>h x (List.mem_cons_of_mem _ hx)]
  simp
theorem cho_fold {r n b:Int}{im:List Int}{ac:List Ent}:∀ (l2 l1:List Ent),RiseL (l1++l2)→(∀ e∈l2,oneI e=0∧b<e.index∧e.round=0∧e.node=0)→(l2.map choRec).foldl stepH ⟨r,n,b,im,ac,l1⟩=⟨r,n,b,im,ac,l1++l2⟩
 | [],l1,_,_=>by simp
 | e::l2,l1,hr,h=>by
  obtain ⟨a1,a2,a3,a4⟩:=h e List.mem_cons_self
  obtain ⟨r1,r2⟩:=rise_split hr
  have es:stepH ⟨r,n,b,im,ac,l1⟩ (choRec e)=⟨r,n,b,im,ac,l1++[e]⟩:=by
   unfold stepH
   rw [if_pos (choRec_ok a1)]
   unfold chg
   have hh:hitB l1 e.index=false:=by
    cases hb:hitB l1 e.index with
    | false=>rfl
    | true =>
     obtain ⟨y,hy,hi⟩:=(hitB_iff r1 _).1 hb
     have:=r2 y hy
     omega
   rw [if_neg (by simp [choRec]),if_neg (by simp [choRec]),if_pos (show (choRec e).kind=3 from rfl),if_pos ⟨hh,a2⟩]
   have eo:(⟨(choRec e).index,0,0,(choRec e).cmd⟩:Ent)=e:=by
    obtain ⟨i,rr,nn,c⟩:=e
    simp only at a3 a4
    subst a3 a4
    rfl
   rw [eo,withL_ins r1,ins_last r2]
  rw [List.map_cons,List.foldl_cons,es,cho_fold l2 (l1++[e]) (by simpa using hr) fun x hx=>h x (List.mem_cons_of_mem _ hx)]
  simp
theorem hardOf_recs {H:Hd}{n:Nat}(h:CheckP H) (g:Good n H):hardOf (recsOf H)=H:=by
 obtain ⟨h1,h2,h3,h4,h5,h6,h7,h8⟩:=h
 unfold hardOf recsOf
 rw [List.foldl_append,List.foldl_append,List.foldl_append]
 have e1:(if 0<H.base then [imgRec H.base H.image] else []).foldl stepH Hd.zero=⟨0,0,H.base,H.image,[],[]⟩:=by
  by_cases hb:0<H.base
  ·rw [if_pos hb,List.foldl_cons,List.foldl_nil]
   have hl:=h4.1 hb
   unfold stepH
   rw [if_pos (img_ok (by omega) (by omega))]
   unfold chg
   rw [if_neg (by simp [imgRec]),if_neg (by simp [imgRec]),if_neg (by simp [imgRec]),if_neg (by simp [imgRec,Hd.zero];omega)]
   simp [imgRec,Hd.zero]
  ·rw [if_neg hb]
   have hb0:H.base=0:=by omega
   have hi0:H.image=[]:=by
    cases hi:H.image with
    | nil=>rfl
    | cons a t =>
     have:0<H.base:=h4.2 (by rw [hi];simp)
     omega
   rw [hb0,hi0]
   rfl
 have e2:(if H.pr=0∧H.pn=0 then [] else [promRec H.pr H.pn]).foldl stepH ⟨0,0,H.base,H.image,[],[]⟩=⟨H.pr,H.pn,H.base,H.image,[],[]⟩:=by
  by_cases hb:H.pr=0∧H.pn=0
  ·rw [if_pos hb,hb.1,hb.2]
   rfl
  ·rw [if_neg hb,List.foldl_cons,List.foldl_nil]
   unfold stepH
   rw [if_pos (promRec_ok h1 hb)]
   unfold chg
   rw [if_pos (show (promRec H.pr H.pn).kind=1 from rfl)]
   unfold Hd.prom
   rw [if_pos]
   ·rfl
   ·show lessP 0 0 H.pr H.pn
    unfold lessP
    unfold mayP at h1
    omega
 rw [e1,e2,acc_fold H.acc [] (by simpa using g.racc) fun e he=>⟨chk_one h5 e he,h7 e he⟩,List.nil_append,cho_fold H.cho [] (by simpa using g.rcho) fun e he=>⟨chk_one h6 e he,(h8 e he).1,(h8 e he).2,(g.cho e he).2.2.2.2⟩]
 simp
theorem recs_len {H:Hd}:(recsOf H).length≤2+H.acc.length+H.cho.length:=by
 unfold recsOf
 simp only [List.length_append,List.length_map]
 split<;>split<;>simp<;>omega
theorem recs_ok {H:Hd}{n:Nat}(g:Good n H):∀ x∈recsOf H,x.cmd.ok∧x.small:=by
 have hm:=g.may
 have hb:=g.base
 unfold mayP at hm
 intro x hx
 unfold recsOf at hx
 simp only [List.mem_append,List.mem_map] at hx
 obtain hx|hx|⟨e,he,rfl⟩|⟨e,he,rfl⟩:=hx
 ·split at hx
  ·rw [List.mem_singleton] at hx
   subst hx
   refine ⟨zeroC_ok,?_⟩
   unfold Rc.small imgRec
   simp only
   omega
  ·simp at hx
 ·split at hx
  ·simp at hx
  ·rw [List.mem_singleton] at hx
   subst hx
   refine ⟨zeroC_ok,?_⟩
   unfold Rc.small promRec
   simp only
   omega
 ·obtain ⟨a1,a2,a3,a4,a5⟩:=g.acc e he
  obtain ⟨b1,b2,b3,b4⟩:=one_parts a1
  unfold mayP at b3
  refine ⟨a2.2.2.2,?_⟩
  unfold Rc.small accRec
  simp only
  omega
 ·obtain ⟨a1,a2,a3,a4,a5⟩:=g.cho e he
  obtain ⟨b1,b2,b3,b4⟩:=one_parts a1
  refine ⟨a2.2.2.2,?_⟩
  unfold Rc.small choRec
  simp only
  omega
noncomputable def errsF (f:Int):List Rc→Int
 | []=>0
 | x::l=>if errF f x=0 then errsF f l else errF f x
noncomputable def hasF (f:Int) (l:List Rc):Int:=if f=1∨f=2 then errsF f l else 8
theorem errsF_drop {f:Int}{l:List Rc}{k:Nat}(h:k<l.length):errsF f (l.drop k)=if errF f l[k]=0 then errsF f (l.drop (k+1)) else errF f l[k]:=by
 rw [List.drop_eq_getElem_cons h]
 rfl
theorem has20_s {G:GH}(f:Int) {l:List Rc}{lv:Value}(hs:Rs G lv l):Con Tryz.prog 13 #[.int .i64 f,lv] G [] (Just (.int .i64 (hasF f l)) G):=by
 obtain ⟨A,c,ivf,rfl,hlc,hcm,hsome,hcp,him,hok⟩:=rsOpen hs
 simp only [maxLen] at hcm
 apply Con.just
 unfold hasF
 by_cases hf:f=1∨f=2
 ·rw [if_pos hf]
  (refine v_enter Tryz.func13 rfl Tryz.ntmps13 rfl ?_;intro B _)
  repeat' (first|apply v_seq|apply v_region|apply v_nil|apply v_skip|apply v_block|apply v_take;(case hg=>rfl)|apply v_pure;(case hop=>first|apply p_move<;>rfl|apply p_lt<;>rfl|apply p_gt<;>rfl|apply p_assign<;>rfl|apply p_pickF<;>rfl|fail);(case hd=>rfl)|apply v_cond;(case hc=>rfl);all_goals (intro h;(try simp only [reduceCtorEq,zzz] at h);try (exfalso;omega))|apply v_guardB;(case h1|h2=>rfl);all_goals (intro h;(try simp only [reduceCtorEq,zzz] at h);try (exfalso;omega))|fail)
  all_goals first
   |(exfalso;omega)
   | skip
  refine v_loop [5,0,1] (fun us G' μ'=>G'=G∧∃ k:Nat,k≤l.length∧errsF f l=errsF f (l.drop k)∧us=[Value.int .i64 (k:Nat),.int .i64 f,.slice A l.length c]∧μ'=[]) (fun us=>l.length-(headI us).toNat) rfl ⟨rfl,0,by omega,rfl,rfl,rfl⟩ ?_
  rintro us G' _ ⟨hG',k,hk,he,rfl,rfl⟩
  subst G'
  have e1:((k:Nat):Int).toNat=k:=by omega
  by_cases hlt:k<l.length
  ·have hA:=hsome (by omega)
   have hcx:=hcp k hlt
   have hix:=him k hlt
   have hcok:=hok _ (List.getElem_mem hlt)
   have hd:=errsF_drop (f:=f) hlt
   have hx:RcV G l[k] (.agg (recL l[k].kind l[k].round l[k].node l[k].index l[k].cmd (ivf k)).toArray):=⟨_,rfl,hix⟩
   have q:=refHasV_s f hx hcok.1
   rw [show hasI f l[k]=errF f l[k] by unfold errF;rw [if_pos hf]] at q
   obtain ⟨Ai,ci,hie,-⟩:=hix.openInt
   rw [hie] at q hcx
   generalize l[k]=x at *
   generalize errF f x=e at *
   repeat' (first|apply v_seq|apply v_region|apply v_nil|apply v_skip|apply v_block|apply v_blk|apply v_pure;(case hop=>first|apply p_move<;>rfl|apply p_lt<;>rfl|apply p_ne<;>rfl|apply p_assign<;>rfl|apply p_lenSlice<;>rfl|apply p_add;(case hx|hy=>rfl);(case h=>omega)|apply p_indexAddrS;(case hx|hi=>rfl);(case h0|h=>omega);(case hA=>assumption)|fail);(case hd=>rfl)|apply v_cond;(case hc=>rfl);all_goals (intro h;(try simp only [reduceCtorEq,zzz] at h);try (exfalso;omega))|apply v_read;(case hop=>(apply r_loadN;rfl;exact CellsAt.frozen hcx;rfl));(case hd=>rfl)|apply v_callJ (hs:=q);(case ha|hd=>rfl)|fail)
   all_goals first
    |(refine v_ret [] (outsA1 rfl rfl) (by repeat (exact List.Sublist.refl _)) ?_
      exact ⟨by rw [he,hd,if_neg (by assumption)],rfl⟩)
    | exact v_again rfl ⟨rfl,k+1,by omega,by rw [he,hd,if_pos (by assumption)],rfl,rfl⟩ (by simp [headI];omega)
    | skip
   all_goals vx_show
  ·obtain rfl:k=l.length:=by omega
   rw [List.drop_length] at he
   repeat' (first|apply v_seq|apply v_region|apply v_nil|apply v_exit;(case hp=>rfl)|apply v_pure;(case hop=>first|apply p_move<;>rfl|apply p_lt<;>rfl|apply p_assign<;>rfl|apply p_lenSlice<;>rfl|fail);(case hd=>rfl)|apply v_cond;(case hc=>rfl);all_goals (intro h;(try simp only [reduceCtorEq,zzz] at h);try (exfalso;omega))|fail)
   refine v_ret [] (outsA1 rfl rfl) (by repeat (exact List.Sublist.refl _)) ?_
   exact ⟨by rw [he];rfl,rfl⟩
 ·rw [if_neg hf]
  (refine v_enter Tryz.func13 rfl Tryz.ntmps13 rfl ?_;intro B _)
  repeat' (first|apply v_seq|apply v_region|apply v_nil|apply v_take;(case hg=>rfl)|apply v_pass;(case hg|hn|hd=>rfl)|apply v_pure;(case hop=>first|apply p_move<;>rfl|apply p_lt<;>rfl|apply p_gt<;>rfl|apply p_assign<;>rfl|apply p_pickT<;>rfl|apply p_pickF<;>rfl|fail);(case hd=>rfl)|apply v_condT;(case hc=>rfl)|apply v_cond;(case hc=>rfl);all_goals (intro h;(try simp only [reduceCtorEq,zzz] at h);try (exfalso;omega))|apply v_guardB;(case h1|h2=>rfl);all_goals (intro h;(try simp only [reduceCtorEq,zzz] at h))|fail)
  all_goals first
   |(refine v_ret [] (outsA1 rfl rfl) (by repeat (exact List.Sublist.refl _)) ?_
     exact ⟨rfl,rfl⟩)
   |(exfalso;omega)
   | skip
  all_goals vx_show
def GrowR (G:GH) (v:Value) (l:List Rc) (ν:OH):Prop := ∃ css:List (List Value),css.length=l.length∧(∀ (i:Nat) y cs,l[i]? = some y→css[i]? = some cs→RcR G y cs)∧Grow 42 12 v l.length css.flatten ν
theorem GrowR.none (G:GH):GrowR G (.slice none 0 0) [] []:=⟨[],rfl,fun i y cs h=>by simp at h,Grow.nil _ _⟩
theorem GrowR.le {G G':GH}(hle:GH.le G G') {v:Value}{l:List Rc}{ν:OH}(h:GrowR G v l ν):GrowR G' v l ν:=by
 obtain ⟨css,h1,h2,h3⟩:=h
 exact ⟨css,h1,fun i y cs hy hc=>(h2 i y cs hy hc).le hle,h3⟩
theorem GrowR.snoc {G:GH}{v':Value}{l:List Rc}{x:Rc}{rx:List Value}{ν':OH}{css:List (List Value)}(h1:css.length=l.length) (h2:∀ (i:Nat) y cs,l[i]? = some y→css[i]? = some cs→RcR G y cs) (h:Grow 42 12 v' (l.length+1) (css.flatten++rx) ν') (hx:RcR G x rx):GrowR G v' (l++[x]) ν':=by
 refine ⟨css++[rx],by simp [h1],fun i y cs hy hc=>?_,by simpa using h⟩
 by_cases hi:i<l.length
 ·rw [List.getElem?_append_left hi] at hy
  rw [List.getElem?_append_left (by omega)] at hc
  exact h2 i y cs hy hc
 ·rw [List.getElem?_append_right (by omega)] at hy hc
  obtain ⟨k1,k2⟩:=List.getElem?_eq_some_iff.1 hy
  have e:i=l.length:=by simp at k1;omega
  subst e
  rw [Nat.sub_self] at hy
  rw [h1,Nat.sub_self] at hc
  simp only [List.getElem?_cons_zero,Option.some.injEq] at hy hc
  subst hy hc
  exact hx
theorem GrowR.rs {G G':GH}{v:Value}{l:List Rc}{ν:OH}(h:GrowR G v l ν) (hle:GH.le G G') (hG:∀ b o,(b,o)∈ν→G' b=some o):Rs G' v l:=by
 obtain ⟨css,h1,h2,h3⟩:=h
 refine Grow.sl h3 hG h1 fun i y cs hy hc=>?_
 have:=(h2 i y cs hy hc).le hle
 exact ⟨(rec_one this).1,this⟩
theorem rcR_nil {G:GH}{x:Rc}(h:x.image=[]) (hc:x.cmd.ok) (hs:x.small):RcR G x (recL x.kind x.round x.node x.index x.cmd (.slice none 0 0)):=⟨_,rfl,hc,hs,by rw [h];exact Sl.nil⟩
def part1 (H:Hd):List Rc:=if 0<H.base then [imgRec H.base H.image] else []
def part2 (H:Hd):List Rc:=part1 H++(if H.pr=0∧H.pn=0 then [] else [promRec H.pr H.pn])
theorem recsOf_parts (H:Hd):recsOf H=part2 H++H.acc.map accRec++H.cho.map choRec:=by
 unfold recsOf part2 part1
 simp only [List.append_assoc]
theorem img_rcR {G:GH}{b:Int}{im:List Int}{iv:Value}(h:Sl G 1 (IntR .u8) iv im) (hs:(imgRec b im).small):RcR G (imgRec b im) (recL 4 0 0 b zeroC iv):=⟨iv,rfl,zeroC_ok,hs,h⟩
theorem records_s {G:GH}{H:Hd}{L:List Value}{n:Nat}(hh:HdV G H L) (g:Good n H) (hn:n≤40) :
 Con Tryz.prog 49 #[.agg L.toArray] G [] (fun r G' μ'=>μ'=[]∧Rs G' r (recsOf H)):=by
 have hrok:=recs_ok g
 obtain ⟨iv,av,cv,rfl,hi,ha,hc⟩:=hh
 have him:=g.img
 have hbs:=g.base
 have hnacc:=g.nacc
 have hncho:=g.ncho
 have qb:=bclone_s hi (by omega)
 obtain ⟨A0,c0,rfl,hl0,hm0,-,-,hwx⟩:=id hi.openInt
 obtain ⟨A1,c1,rfl,hl1,hm1,hs1,hcp1,hcb1,hcc1,-⟩:=esOpen ha
 obtain ⟨A2,c2,rfl,hl2,hm2,hs2,hcp2,hcb2,hcc2,-⟩:=esOpen hc
 simp only [maxLen] at hm0 hm1 hm2
 rw [recsOf_parts] at hrok ⊢
 have hp1:(part1 H).length≤1:=by unfold part1;split<;>simp
 have hp2:(part2 H).length≤2:=by
  unfold part2
  rw [List.length_append]
  split<;>simp<;>omega
 have hp1o:∀ x∈part1 H,x.cmd.ok∧x.small:=fun x hx=>hrok x (by unfold part2;simp [hx])
 have hp2o:∀ x∈part2 H,x.cmd.ok∧x.small:=fun x hx=>hrok x (by simp [hx])
 (refine v_enter Tryz.func49 rfl Tryz.ntmps49 rfl ?_;intro B _)
 repeat' (first|apply v_seq|apply v_region|apply v_nil|apply v_pure;(case hop=>first|apply p_gt<;>rfl|apply p_assign<;>rfl|apply p_fieldAddrB<;>rfl|fail);(case hd=>rfl)|apply v_read;(case hop=>(apply r_load1;rfl;(apply Cell.own;(case h=>repeat exact mhd _);rfl)));(case hd=>rfl)|apply v_box;(case hx|hz|hd=>rfl);intro b|fail)
 rename Nat=>hb
 refine v_cut (fun σ1 G' μ'=>GH.le G G'∧∃ v ν,EnvHas σ1 [(3,v),(1,.pointer (some ⟨hb,0,none⟩))]∧GrowR G' v (part1 H) ν∧List.Sublist (ν++[(hb,hardO (hdL H.pr H.pn H.base (.slice A0 H.image.length c0) (.slice A1 H.acc.length c1) (.slice A2 H.cho.length c2)))]) μ') ?_ ?_
 ·intro hcut
  refine v_cond rfl (fun h=>?_) (fun h=>?_)
  ·rw [dec_true] at h
   have e1:part1 H=[imgRec H.base H.image]:=by unfold part1;rw [if_pos h]
   have hio:=hp1o _ (by rw [e1];exact List.mem_singleton.2 rfl)
   repeat' (fail)
   refine d_start _ (by kernel_rfl) (by kernel_rfl) (by kernel_rfl) (fun _ he=>he) ?_
   all_goals (apply dtm 0;(case hi|hx=>rfl);(case hq=>kernel_rfl);apply dtk 1;(case hi=>rfl);(case hop=>(apply prd;apply p_fieldAddrB<;>rfl));(case hq=>kernel_rfl))
   all_goals (apply dtk 2;(case hi=>rfl);(case hop=>first|apply r_loadNo;(case hx=>rfl);(case h=>repeat fail);(case hd=>repeat fail);(case hn=>rfl)|apply r_load1;rfl;(apply Cell.own;(case h=>repeat exact mhd _);rfl)|apply r_loadN;rfl;(apply CellsAt.own;(case h=>repeat fail));rfl);(case hq=>kernel_rfl);apply dtk 3;(case hi=>rfl);(case hop=>(apply prd;apply p_fieldAddrB<;>rfl));(case hq=>kernel_rfl))
   all_goals (apply dtk 4;(case hi=>rfl);(case hop=>first|apply r_loadNo;(case hx=>rfl);(case h=>repeat fail);(case hd=>repeat fail);(case hn=>rfl)|apply r_load1;rfl;(apply Cell.own;(case h=>repeat exact mhd _);rfl)|apply r_loadN;rfl;(apply CellsAt.own;(case h=>repeat fail));rfl);(case hq=>kernel_rfl))
   all_goals ((apply d_call 5 (hs:=qb);(case hi=>rfl);(case hr=>kernel_rfl);(case ha=>rfl);(case hp=>exact List.Perm.refl _);(case hd=>rfl);(case hν'=>intro e he;simp at he;simp [he]);rintro r1 _ ν1 - ⟨rfl,hg1⟩;obtain ⟨A4,c4,rfl,-,-⟩:=hg1.shape;refine d_frz ν1 (by repeat (exact PickA.here _)) (by intro e he;simp at he;simp [he]) ?_;intro G2 hle2 hG2;have k1:=img_rcR (b:=H.base) (im:=H.image) (hg1.ints hG2 hwx) hio.2))
   all_goals (apply dtk 6;(case hi=>rfl);(case hop=>(apply prd;apply p_build;(case hz=>rfl);(case hv=>(simp only [List.map_cons,List.map_nil];repeat (first|with_reducible exact evs_nil|apply evs_cons;(case h1=>rfl))));(case hb=>(apply bldL;repeat (first|exact bld_nil|apply bld_cons;(case hpf|hc|hs|hl=>rfl);(case ho=>((repeat (first|with_reducible exact ov_nil|apply ov_cons));done)))))));(case hq=>kernel_rfl))
   all_goals (apply d_buildSlice 7;(case hi=>rfl);(case hr=>kernel_rfl);(case hT=>infer_instance);(case hL=>infer_instance);(case hz|hl=>rfl);(case hv=>(simp only [List.map_cons,List.map_nil];repeat (first|with_reducible exact evs_nil|apply evs_cons;(case h1=>rfl))));(case hp=>(apply pk_cons;(case hc|hs=>rfl);(case h=>(with_reducible exact pk_nil));(case he=>((repeat (first|with_reducible exact ap_nil|apply ap_cons));done))));(case hb|hd=>rfl);(case hν=>intro e he;exact he);intro bb)
   all_goals (apply d_append 8 (hg:=Grow.nil 42 12) (q':=1) (us:=recL 4 0 0 H.base zeroC (.slice A4 H.image.length c4)) (hp:=PickA.perm (by repeat (exact PickA.here _))) (hsrc:=Src.own (e:=42) (by repeat (exact mhd _)) rfl);(case hi=>rfl);(case hr=>kernel_rfl);(case hT=>infer_instance);(case hL=>infer_instance);(case hzs=>rfl);(case hsz=>omega);(case hs|hx=>rfl);(case hb=>omega);(case hb'=>simp only [maxLen];omega);(case hd|h1=>rfl);(case hν=>intro e he;(simp at he;simp [he];done));intro v3 n3 hg3)
   all_goals (apply dta 9;(case hi|hx=>rfl);(case hq=>kernel_rfl))
   all_goals (apply d_done;(case hr=>kernel_rfl))
   rw [e1] at hcut
   refine hcut _ _ _ ⟨hle2,v3,n3,⟨rfl,rfl,trivial⟩,?_,(List.Sublist.append_left (by repeat (first|exact List.Sublist.refl _|apply List.Sublist.cons)) _)⟩
   exact GrowR.snoc (css:=[]) (l:=[]) rfl (fun i y cs h=>by simp at h) hg3 k1
  ·rw [dec_false] at h
   have e1:part1 H=[]:=by unfold part1;rw [if_neg h]
   rw [e1] at hcut
   apply v_skip
   exact hcut _ _ _ ⟨GH.le_refl _,.slice none 0 0,[],⟨rfl,rfl,trivial⟩,GrowR.none _,(by repeat (exact List.Sublist.refl _))⟩
 rintro σ1 G1 μ1 ⟨hle1,v1,ν1,hE,hg1,hμ⟩
 refine v_drop hμ (v_has hE ?_)
 clear hE hμ
 repeat' (first|apply v_seq|apply v_region|apply v_nil|apply v_pure;(case hop=>first|apply p_fieldAddrB<;>rfl|apply p_build;(case hz=>rfl);(case hv=>(simp only [List.map_cons,List.map_nil];repeat (with_reducible exact evs_nil)));(case hb=>(apply bldL;repeat (exact bld_nil)))|fail);(case hd=>rfl)|apply v_pure;(case hop=>(apply neBal;(case hx|hy=>rfl)));(case hd=>rfl)|apply v_read;(case hop=>(apply r_loadNo;(case hx=>rfl);(case h=>repeat first|exact mhd _|apply List.mem_append_right);(case hd=>repeat first|with_reducible exact dt_nil|apply dt_here);(case hn=>rfl)));(case hd=>rfl)|fail)
 refine v_cut (fun σ1 G' μ'=>GH.le G1 G'∧∃ v ν,EnvHas σ1 [(3,v),(1,.pointer (some ⟨hb,0,none⟩))]∧GrowR G' v (part2 H) ν∧List.Sublist (ν++[(hb,hardO (hdL H.pr H.pn H.base (.slice A0 H.image.length c0) (.slice A1 H.acc.length c1) (.slice A2 H.cho.length c2)))]) μ') ?_ ?_
 ·intro hcut
  refine v_cond rfl (fun h=>?_) (fun h=>?_)
  ·have h':¬ (H.pr=0∧H.pn=0):=fun hh=>by rw [dec_pos hh] at h;cases h
   have e2:part2 H=part1 H++[promRec H.pr H.pn]:=by unfold part2;rw [if_neg h']
   have hio:=hp2o _ (by rw [e2];exact List.mem_append_right _ (List.mem_singleton.2 rfl))
   obtain ⟨css,hcl,hcr,hgr⟩:=id hg1
   repeat' (first|(refine hcut _ _ _ ?_;exact ⟨GH.le_refl _,_,_,⟨rfl,rfl,trivial⟩,by rw [e2];exact GrowR.snoc hcl hcr (by assumption) (rcR_nil rfl hio.1 hio.2),(List.Sublist.append_left (by repeat (first|exact List.Sublist.refl _|apply List.Sublist.cons)) _)⟩)|apply v_region|apply v_nil|apply v_pure;(case hop=>first|apply p_move<;>rfl|apply p_assign<;>rfl|apply p_fieldAddrB<;>rfl|apply p_build;(case hz=>rfl);(case hv=>(simp only [List.map_cons,List.map_nil];repeat (first|with_reducible exact evs_nil|apply evs_cons;(case h1=>rfl))));(case hb=>(apply bldL;repeat (first|exact bld_nil|apply bld_cons;(case hpf|hc|hs|hl=>rfl);(case ho=>((repeat (first|with_reducible exact ov_nil|apply ov_cons));done)))))|fail);(case hd=>rfl)|apply v_append (hg:=hgr) (m':=1) (us:=recL 1 H.pr H.pn 0 zeroC (.slice none 0 0)) (hp:=PickA.perm (by repeat (first|exact PickA.here _|apply PickA.cons))) (hsrc:=Src.own (e:=42) (by repeat (exact mhd _)) rfl);(case hzs=>rfl);(case hsz=>omega);(case hs|hx=>rfl);(case hb=>omega);(case hb'=>simp only [maxLen];omega);(case hd|h1=>rfl);intro v3 n3 hg3|apply v_read;(case hop=>(apply r_loadNo;(case hx=>rfl);(case h=>repeat first|exact mhd _|apply List.mem_append_right);(case hd=>repeat first|with_reducible exact dt_nil|apply dt_here);(case hn=>rfl)));(case hd=>rfl)|apply v_buildSlice;(case hz|hi=>rfl);(case hv=>(simp only [List.map_cons,List.map_nil];repeat (first|with_reducible exact evs_nil|apply evs_cons;(case h1=>rfl))));(case hp=>(apply pk_cons;(case hc|hs=>rfl);(case h=>(with_reducible exact pk_nil));(case he=>((repeat (first|with_reducible exact ap_nil|apply ap_cons));done))));(case hb|hd=>rfl);intro b|fail)
  ·have h':H.pr=0∧H.pn=0:=Decidable.byContradiction fun hh=>by rw [dec_neg hh] at h;cases h
   have e2:part2 H=part1 H:=by unfold part2;rw [if_pos h',List.append_nil]
   apply v_skip
   refine hcut _ _ _ ?_
   exact ⟨GH.le_refl _,v1,ν1,⟨rfl,rfl,trivial⟩,by rw [e2];exact hg1,List.Sublist.refl _⟩
 rintro σ2 G2 μ2 ⟨hle2,v2,ν2,hE,hg2,hμ⟩
 refine v_drop hμ (v_has hE ?_)
 clear hE hμ
 have hle:=GH.le_trans hle1 hle2
 have hcp1':=fun i h=>(hcp1 i h).le hle
 have hcp2':=fun i h=>(hcp2 i h).le hle
 clear hcp1 hcp2
 repeat' (first|apply v_seq|apply v_region|apply v_nil|apply v_block|apply v_pure;(case hop=>first|apply p_move<;>rfl|apply p_lenSlice<;>rfl|apply p_fieldAddrB<;>rfl|fail);(case hd=>rfl)|apply v_read;(case hop=>(apply r_load1;rfl;(apply Cell.own;(case h=>repeat first|exact mhd _|apply List.mem_append_right);rfl)));(case hd=>rfl)|fail)
 refine v_loop [33,3,31,32,1] (fun us G' μ'=>G'=G2∧∃ k v ν,k≤H.acc.length∧us=[Value.int .i64 (k:Nat),v,.slice A1 H.acc.length c1,.int .i64 (H.acc.length:Nat),.pointer (some ⟨hb,0,none⟩)]∧GrowR G2 v (part2 H++(H.acc.take k).map accRec) ν∧μ'=ν++[(hb,hardO (hdL H.pr H.pn H.base (.slice A0 H.image.length c0) (.slice A1 H.acc.length c1) (.slice A2 H.cho.length c2)))]) (fun us=>H.acc.length-(headI us).toNat) rfl ⟨rfl,0,v2,ν2,by omega,rfl,by simpa using hg2,rfl⟩ ?_
 rintro us G' _ ⟨rfl,k,v,ν,hk,rfl,hgk,rfl⟩
 by_cases hlt:k<H.acc.length
 ·have e1:((k:Nat):Int).toNat=k:=by omega
  have kc:=hcp1' k hlt
  have hA:=hs1 (by omega)
  have htk:part2 H++(H.acc.take (k+1)).map accRec=(part2 H++(H.acc.take k).map accRec)++[accRec H.acc[k]]:=by
   rw [List.take_succ_eq_append_getElem hlt,List.map_append,← List.append_assoc]
   rfl
  have hio:=hrok (accRec H.acc[k]) (by
   simp only [List.mem_append,List.mem_map]
   exact .inl (.inr ⟨_,List.getElem_mem hlt,rfl⟩))
  have hln:(part2 H++(H.acc.take k).map accRec).length≤100:=by
   rw [List.length_append,List.length_map,List.length_take]
   omega
  obtain ⟨css,hcl,hcr,hgr⟩:=id hgk
  generalize hxe:H.acc[k]=e at *
  generalize part2 H++(H.acc.take k).map accRec=l0 at *
  repeat' (first|apply v_seq|apply v_region|apply v_nil|apply v_skip|apply v_block|apply v_blk|apply v_pure;(case hop=>first|apply p_move<;>rfl|apply p_lt<;>rfl|apply p_assign<;>rfl|apply p_fieldAddrB<;>rfl|apply p_add;(case hx|hy=>rfl);(case h=>omega)|apply p_indexAddrS;(case hx|hi=>rfl);(case h0|h=>omega);(case hA=>assumption)|apply p_build;(case hz=>rfl);(case hv=>(simp only [List.map_cons,List.map_nil];repeat (first|with_reducible exact evs_nil|apply evs_cons;(case h1=>rfl))));(case hb=>(apply bldL;repeat (first|exact bld_nil|apply bld_cons;(case hpf|hc|hs|hl=>rfl);(case ho=>((repeat (first|with_reducible exact ov_nil|apply ov_cons));done)))))|fail);(case hd=>rfl)|apply v_cond;(case hc=>rfl);all_goals (intro h;(try simp only [reduceCtorEq,zzz] at h);try (exfalso;omega))|apply v_read;(case hop=>(apply r_loadN;rfl;exact CellsAt.frozen kc;rfl));(case hd=>rfl)|apply v_append (hg:=hgr) (m':=1) (us:=recL 2 e.round e.node e.index e.cmd (.slice none 0 0)) (hp:=PickA.perm (by repeat (first|exact PickA.here _|apply PickA.cons))) (hsrc:=Src.own (e:=42) (by repeat (exact mhd _)) rfl);(case hzs=>rfl);(case hsz=>omega);(case hs|hx=>rfl);(case hb=>omega);(case hb'=>simp only [maxLen];omega);(case hd|h1=>rfl);intro v3 n3 hg3|apply v_read;(case hop=>first|apply r_loadNo;(case hx=>rfl);(case h=>repeat exact mhd _);(case hd=>repeat first|with_reducible exact dt_nil|apply dt_here);(case hn=>rfl)|apply r_load1;rfl;(apply Cell.own;(case h=>repeat exact mhd _);rfl)|fail);(case hd=>rfl)|apply v_buildSlice;(case hz|hi=>rfl);(case hv=>(simp only [List.map_cons,List.map_nil];repeat (first|with_reducible exact evs_nil|apply evs_cons;(case h1=>rfl))));(case hp=>(apply pk_cons;(case hc|hs=>rfl);(case h=>(with_reducible exact pk_nil));(case he=>((repeat (first|with_reducible exact ap_nil|apply ap_cons));done))));(case hb|hd=>rfl);intro b|apply v_alloc;(case hz|hd=>rfl);intro b|apply v_store;(case hp|hx|hc|hsz|h1=>rfl);(case hb=>repeat exact mhd _);(case hfit=>exact nle rfl);(case hov=>((repeat (first|with_reducible exact ov_nil|apply ov_cons));done));(case hu=>repeat first|exact Upd.here _ _|fail)|fail)
  refine v_drop (ν:=n3++[(hb,hardO (hdL H.pr H.pn H.base (.slice A0 H.image.length c0) (.slice A1 H.acc.length c1) (.slice A2 H.cho.length c2)))]) (List.Sublist.append_left (by repeat (first|exact List.Sublist.refl _|apply List.Sublist.cons)) _) ?_
  refine v_again rfl ⟨rfl,k+1,v3,n3,by omega,rfl,?_,rfl⟩ (by simp [headI];omega)
  rw [htk]
  exact GrowR.snoc hcl hcr hg3 (rcR_nil rfl hio.1 hio.2)
 ·have htk:part2 H++(H.acc.take k).map accRec=part2 H++H.acc.map accRec:=by rw [List.take_of_length_le (by omega)]
  rw [htk] at hgk
  repeat' (first|apply v_seq|apply v_region|apply v_nil|apply v_block|apply v_exit;(case hp=>rfl)|apply v_pure;(case hop=>first|apply p_move<;>rfl|apply p_lt<;>rfl|apply p_lenSlice<;>rfl|apply p_fieldAddrB<;>rfl|fail);(case hd=>rfl)|apply v_cond;(case hc=>rfl);all_goals (intro h;(try simp only [reduceCtorEq,zzz] at h);try (exfalso;omega))|apply v_read;(case hop=>(apply r_load1;rfl;(apply Cell.own;(case h=>repeat first|exact mhd _|apply List.mem_append_right);rfl)));(case hd=>rfl)|fail)
  clear htk hk hlt
  refine v_loop [51,3,49,50,1] (fun us G2 μ'=>G2=G'∧∃ k v ν,k≤H.cho.length∧us=[Value.int .i64 (k:Nat),v,.slice A2 H.cho.length c2,.int .i64 (H.cho.length:Nat),.pointer (some ⟨hb,0,none⟩)]∧GrowR G' v (part2 H++H.acc.map accRec++(H.cho.take k).map choRec) ν∧μ'=ν++[(hb,hardO (hdL H.pr H.pn H.base (.slice A0 H.image.length c0) (.slice A1 H.acc.length c1) (.slice A2 H.cho.length c2)))]) (fun us=>H.cho.length-(headI us).toNat) rfl ⟨rfl,0,v,ν,by omega,rfl,by simpa using hgk,rfl⟩ ?_
  rintro us _ _ ⟨rfl,k,v,ν,hk,rfl,hgk,rfl⟩
  by_cases hlt:k<H.cho.length
  ·have e1:((k:Nat):Int).toNat=k:=by omega
   have kc:=hcp2' k hlt
   have hA:=hs2 (by omega)
   have htk:part2 H++H.acc.map accRec++(H.cho.take (k+1)).map choRec=(part2 H++H.acc.map accRec++(H.cho.take k).map choRec)++[choRec H.cho[k]]:=by
    rw [List.take_succ_eq_append_getElem hlt,List.map_append,← List.append_assoc]
    rfl
   have hio:=hrok (choRec H.cho[k]) (by
    simp only [List.mem_append,List.mem_map]
    exact .inr ⟨_,List.getElem_mem hlt,rfl⟩)
   have hln:(part2 H++H.acc.map accRec++(H.cho.take k).map choRec).length≤100:=by
    rw [List.length_append,List.length_append,List.length_map,List.length_map,List.length_take]
    omega
   obtain ⟨css,hcl,hcr,hgr⟩:=id hgk
   generalize hxe:H.cho[k]=e at *
   generalize part2 H++H.acc.map accRec++(H.cho.take k).map choRec=l0 at *
   repeat' (first|apply v_seq|apply v_region|apply v_nil|apply v_skip|apply v_block|apply v_blk|apply v_pure;(case hop=>first|apply p_move<;>rfl|apply p_lt<;>rfl|apply p_assign<;>rfl|apply p_fieldAddrB<;>rfl|apply p_add;(case hx|hy=>rfl);(case h=>omega)|apply p_indexAddrS;(case hx|hi=>rfl);(case h0|h=>omega);(case hA=>assumption)|apply p_build;(case hz=>rfl);(case hv=>(simp only [List.map_cons,List.map_nil];repeat (first|with_reducible exact evs_nil|apply evs_cons;(case h1=>rfl))));(case hb=>(apply bldL;repeat (first|exact bld_nil|apply bld_cons;(case hpf|hc|hs|hl=>rfl);(case ho=>((repeat (first|with_reducible exact ov_nil|apply ov_cons));done)))))|fail);(case hd=>rfl)|apply v_cond;(case hc=>rfl);all_goals (intro h;(try simp only [reduceCtorEq,zzz] at h);try (exfalso;omega))|apply v_read;(case hop=>(apply r_loadN;rfl;exact CellsAt.frozen kc;rfl));(case hd=>rfl)|apply v_append (hg:=hgr) (m':=1) (us:=recL 3 0 0 e.index e.cmd (.slice none 0 0)) (hp:=PickA.perm (by repeat (first|exact PickA.here _|apply PickA.cons))) (hsrc:=Src.own (e:=42) (by repeat (exact mhd _)) rfl);(case hzs=>rfl);(case hsz=>omega);(case hs|hx=>rfl);(case hb=>omega);(case hb'=>simp only [maxLen];omega);(case hd|h1=>rfl);intro v3 n3 hg3|apply v_read;(case hop=>first|apply r_loadNo;(case hx=>rfl);(case h=>repeat exact mhd _);(case hd=>repeat first|with_reducible exact dt_nil|apply dt_here);(case hn=>rfl)|apply r_load1;rfl;(apply Cell.own;(case h=>repeat exact mhd _);rfl)|fail);(case hd=>rfl)|apply v_buildSlice;(case hz|hi=>rfl);(case hv=>(simp only [List.map_cons,List.map_nil];repeat (first|with_reducible exact evs_nil|apply evs_cons;(case h1=>rfl))));(case hp=>(apply pk_cons;(case hc|hs=>rfl);(case h=>(with_reducible exact pk_nil));(case he=>((repeat (first|with_reducible exact ap_nil|apply ap_cons));done))));(case hb|hd=>rfl);intro b|apply v_alloc;(case hz|hd=>rfl);intro b|apply v_store;(case hp|hx|hc|hsz|h1=>rfl);(case hb=>repeat exact mhd _);(case hfit=>exact nle rfl);(case hov=>((repeat (first|with_reducible exact ov_nil|apply ov_cons));done));(case hu=>repeat first|exact Upd.here _ _|fail)|fail)
   refine v_drop (ν:=n3++[(hb,hardO (hdL H.pr H.pn H.base (.slice A0 H.image.length c0) (.slice A1 H.acc.length c1) (.slice A2 H.cho.length c2)))]) (List.Sublist.append_left (by repeat (first|exact List.Sublist.refl _|apply List.Sublist.cons)) _) ?_
   refine v_again rfl ⟨rfl,k+1,v3,n3,by omega,rfl,?_,rfl⟩ (by simp [headI];omega)
   rw [htk]
   exact GrowR.snoc hcl hcr hg3 (rcR_nil rfl hio.1 hio.2)
  ·have htk:part2 H++H.acc.map accRec++(H.cho.take k).map choRec=part2 H++H.acc.map accRec++H.cho.map choRec:=by rw [List.take_of_length_le (by omega)]
   rw [htk] at hgk
   repeat' (first|apply v_seq|apply v_region|apply v_nil|apply v_exit;(case hp=>rfl)|apply v_pure;(case hop=>first|apply p_move<;>rfl|apply p_lt<;>rfl|apply p_assign<;>rfl|fail);(case hd=>rfl)|apply v_cond;(case hc=>rfl);all_goals (intro h;(try simp only [reduceCtorEq,zzz] at h);try (exfalso;omega))|fail)
   refine v_frz ν (by repeat (exact PickA.here _)) ?_
   intro G3 hle3 hG3
   refine v_ret [] (outsA1 rfl rfl) (by repeat (exact List.nil_sublist _)) ?_
   exact ⟨rfl,hgk.rs hle3 hG3⟩
noncomputable def headNo (f:Int) (H:Hd):Int:=if f=1∨f=2 then (if CheckP H then errsF f (recsOf H) else 3) else 8
theorem frB_max (b:List Int):(frB b).length≤b.length+15:=by
 have:=(vbytes_len (b.length:Int)).1
 rw [frB_len];omega
theorem flat_take {f:Int}{l:List Rc}{k:Nat}(h:k<l.length):flatF (encF f) (l.take (k+1))=flatF (encF f) (l.take k)++frB (encF f l[k]):=by
 rw [List.take_succ_eq_append_getElem h,flatF_app]
 congr 1
 simp [flatF]
set_option maxHeartbeats 1000000 in
theorem head_s {G:GH}(hT:TabsG G) (hC:CrcG G) (f:Int) {H:Hd}{L:List Value}{n:Nat}(hh:HdV G H L) (g:CheckP H→Good n H) (hn:n≤40) (hfw:f≤9223372036854775807) (hlen:(recsOf H).length≤100) (hlg:CheckP H→∀ x∈recsOf H,¬ x.large) :
 Con Tryz.prog 12 #[.int .i64 f,.agg L.toArray] G [] (fun r G' μ'=>μ'=[]∧∃ v,r=.tuple [v,.int .i64 (headNo f H)].toArray∧Sl G' 1 (IntR .u8) v (if headNo f H=0 then fileB encF f (recsOf H).length (recsOf H) else [])):=by
 have qc:=hChk_s hT hh
 have qm:=vmay_s G f
 unfold headNo
 by_cases hf:f=1∨f=2
 ·rw [if_pos hf]
  rw [decide_eq_true hf] at qm
  by_cases hck:CheckP H
  ·rw [if_pos hck] at qc ⊢
   have qr:=records_s hh (g hck) hn
   have hlg:=hlg hck
   obtain ⟨iv,av,cv,rfl,hi,ha,hcv⟩:=id hh
   obtain ⟨A0,c0,rfl,-⟩:=hi.openInt
   obtain ⟨A1,c1,rfl,-⟩:=ha.open
   obtain ⟨A2,c2,rfl,-⟩:=hcv.open
   generalize recsOf H=l at *
   (refine v_enter Tryz.func12 rfl Tryz.ntmps12 rfl ?_;intro B _)
   repeat' (first|apply v_seq|apply v_region|apply v_nil|apply v_skip|apply v_pure;(case hop=>first|apply p_move<;>rfl|apply p_nes<;>rfl|apply p_assign<;>rfl|apply p_not<;>rfl|fail);(case hd=>rfl)|apply v_condF;(case hc=>rfl)|apply v_callJ (hs:=qm);(case ha|hd=>rfl)|apply v_callJ (hs:=qc);(case ha|hd=>rfl)|apply v_read;(case hop=>(apply r_loadNo;(case hx=>rfl);(case h=>repeat exact mhd _);(case hd=>repeat first|with_reducible exact dt_nil|apply dt_here);(case hn=>rfl)));(case hd=>rfl)|apply v_box;(case hx|hz|hd=>rfl);intro b|fail)
   refine v_call (μ1:=[]) rfl qr (List.Perm.refl _) rfl ?_
   rintro r1 G1 _ hle1 ⟨rfl,hrs⟩
   obtain ⟨A,c,ivf,rfl,hlc,hcm,hsome,hcp,him,hok⟩:=rsOpen hrs
   simp only [maxLen] at hcm
   repeat' (first|apply v_seq|apply v_region|apply v_nil|apply v_pure;(case hop=>first|apply p_move<;>rfl|apply p_assign<;>rfl|apply p_lenSlice<;>rfl|fail);(case hd=>rfl)|fail)
   refine v_call (μ1:=[]) rfl (first_s (hC.le hle1) f (l.length:Nat) hfw (by omega)) (List.Perm.refl _) rfl ?_
   rintro r2 G2 ν2 hle2 g2
   repeat' (first|apply v_seq|apply v_region|apply v_nil|apply v_block|apply v_pure;(case hop=>first|apply p_move<;>rfl|apply p_assign<;>rfl|apply p_lenSlice<;>rfl|fail);(case hd=>rfl)|fail)
   refine v_drop (ν:=ν2) (List.sublist_append_left _ _) ?_
   refine v_loop [29,8,28,27,0] (fun us G' μ'=>GH.le G2 G'∧∃ (k:Nat) (v:Value),k≤l.length∧errsF f l=errsF f (l.drop k)∧us=[Value.int .i64 (k:Nat),v,.int .i64 (l.length:Nat),.slice A l.length c,.int .i64 f]∧(fileB encF f l.length (l.take k)).length≤100+k*60000∧byteL (fileB encF f l.length (l.take k))∧Grow 5 1 v (fileB encF f l.length (l.take k)).length ((fileB encF f l.length (l.take k)).map (.int .u8 ·)) μ') (fun us=>l.length-(headI us).toNat) rfl ⟨GH.le_refl _,0,_,by omega,rfl,rfl,?_,?_,?_⟩ ?_
   ·have h1:=vbytes_len f
    have h2:=vbytes_len (l.length:Nat)
    have h3:=frB_max (vbytes f++vbytes (l.length:Nat))
    rw [List.length_append] at h3
    simp [fileB,flatF]
    omega
   ·have:=frB_byte ((vbytes_byte hfw).app (vbytes_byte (n:=(l.length:Nat)) (by omega))) (headB_ok (f:=f) (n:=l.length))
    simpa [fileB,flatF] using this
   ·simpa [fileB,flatF] using g2
   rintro us G' μ' ⟨hle3,k,v,hk,he,rfl,hsz,hby,hg⟩
   obtain ⟨A3,c3,rfl,-,-⟩:=hg.shape
   have e1:((k:Nat):Int).toNat=k:=by omega
   by_cases hlt:k<l.length
   ·have hA:=hsome (by omega)
    have hle23:=GH.le_trans hle2 hle3
    have hcx:=(hcp k hlt).le hle23
    have hix:=(him k hlt).mono hle23
    have hcok:=hok _ (List.getElem_mem hlt)
    have hd:=errsF_drop (f:=f) hlt
    have hx:RcV G' l[k] (.agg (recL l[k].kind l[k].round l[k].node l[k].index l[k].cmd (ivf k)).toArray):=⟨_,rfl,hix⟩
    have hle13:=GH.le_trans hle1 hle23
    have q:=sadd_s (hT.le hle13) (hC.le hle13) f hx hcok.1 (hlg _ (List.getElem_mem hlt)) hcok.2
    obtain ⟨Ai,ci,hie,-,-,-,-,hiw⟩:=hix.openInt
    have hmax:errF f (l[k]'hlt)=0→(encF f (l[k]'hlt)).length≤50000∧wfL (encF f (l[k]'hlt)):=fun h'=>encF_ok h' hcok.1 hiw
    have hone:=encF_one (f:=f) (x:=l[k]'hlt)
    rw [hie] at q hcx
    have hft:=flat_take (f:=f) hlt
    have hfb:=frB_max (encF f l[k])
    have hfile:fileB encF f l.length (l.take (k+1))=fileB encF f l.length (l.take k)++frB (encF f l[k]):=by
     unfold fileB
     rw [hft,List.append_assoc]
    unfold AddS at q
    clear hft hx hix hcok hcp him hok qr qc g2
    generalize l[k]=x at *
    repeat' (first|apply v_seq|apply v_region|apply v_nil|apply v_skip|apply v_block|apply v_pure;(case hop=>first|apply p_move<;>rfl|apply p_lt<;>rfl|apply p_indexAddrS;(case hx|hi=>rfl);(case h0|h=>omega);(case hA=>assumption)|fail);(case hd=>rfl)|apply v_cond;(case hc=>rfl);all_goals (intro h;(try simp only [reduceCtorEq,zzz] at h);try (exfalso;omega))|apply v_read;(case hop=>(apply r_loadN;rfl;exact CellsAt.frozen hcx;rfl));(case hd=>rfl)|apply v_read;(case hop=>(apply r_loadNo;(case hx=>rfl);(case h=>repeat exact mhd _);(case hd=>repeat first|with_reducible exact dt_nil|apply dt_here);(case hn=>rfl)));(case hd=>rfl)|apply v_alloc;(case hz|hd=>rfl);intro b|apply v_store;(case hp|hx|hc|hsz|h1=>rfl);(case hb=>repeat exact mhd _);(case hfit=>exact nle rfl);(case hov=>((repeat (first|with_reducible exact ov_nil|apply ov_cons));done));(case hu=>repeat (exact Upd.here _ _))|fail)
    refine v_call (μ1:=[]) rfl q (List.Perm.refl _) rfl ?_
    rintro _ G4 _ hle4 ⟨rfl,v4,rfl,s4⟩
    by_cases h0:errF f x=0
    ·rw [if_pos h0] at s4 hd
     rw [h0]
     obtain ⟨hm1,hm2⟩:=hmax h0
     have hsd:=fun μ=>Src.ints (μ:=μ) s4
     obtain ⟨A4,c4,rfl,hlc4,hcm4,-⟩:=s4.openInt
     have hb2:=frB_byte (wfL.byte hm2) ⟨hone,by omega⟩
     generalize fileB encF f l.length (l.take k)=P at *
     generalize frB (encF f x)=Q at *
     repeat' (first|apply v_seq|apply v_region|apply v_nil|apply v_skip|apply v_blk|apply v_pure;(case hop=>first|apply p_move<;>rfl|apply p_nes<;>rfl|apply p_assign<;>rfl|apply p_extract0<;>rfl|apply p_extract1<;>rfl|apply p_add;(case hx|hy=>rfl);(case h=>omega)|fail);(case hd=>rfl)|apply v_condF;(case hc=>rfl)|apply v_append (hg:=hg) (m':=Q.length) (us:=Q.map (.int .u8 ·)) (hp:=PickA.perm (by repeat (first|exact PickA.last|apply PickA.cons))) (hsrc:=hsd _);(case hzs=>rfl);(case hsz=>omega);(case hs|hx=>rfl);(case hb=>omega);(case hb'=>simp only [maxLen];omega);(case hd=>rfl);(case h1=>exact allOne_ints Q);intro v5 n5 hg5|fail)
     refine v_only n5 (by repeat (exact PickA.here _)) ?_
     refine v_again rfl ⟨GH.le_trans hle3 hle4,k+1,v5,by omega,by rw [he,hd],rfl,?_,?_,?_⟩ (by simp [headI];omega)
     ·rw [hfile,List.length_append];omega
     ·rw [hfile];exact hby.app hb2
     ·rw [hfile,List.length_append,List.map_append];exact hg5
    ·rw [if_neg h0] at s4 hd
     obtain ⟨A4,c4,rfl,-⟩:=s4.openInt
     repeat' (first|apply v_seq|apply v_region|apply v_nil|apply v_pure;(case hop=>first|apply p_move<;>rfl|apply p_ne<;>rfl|apply p_assign<;>rfl|apply p_extract0<;>rfl|apply p_extract1<;>rfl|fail);(case hd=>rfl)|apply v_cond;(case hc=>rfl);all_goals (intro h;(try simp only [reduceCtorEq,zzz] at h);try (exfalso;omega))|fail)
     refine v_ret [] (outsA2 rfl rfl rfl) (List.nil_sublist _) ?_
     exact ⟨rfl,_,by rw [he,hd],by rw [he,hd,if_neg h0];exact Sl.nil⟩
   ·obtain rfl:k=l.length:=by omega
    rw [List.drop_length] at he
    rw [List.take_length] at hg hby ⊢
    repeat' (first|apply v_seq|apply v_region|apply v_nil|apply v_exit;(case hp=>rfl)|apply v_pure;(case hop=>first|apply p_move<;>rfl|apply p_lt<;>rfl|apply p_assign<;>rfl|fail);(case hd=>rfl)|apply v_cond;(case hc=>rfl);all_goals (intro h;(try simp only [reduceCtorEq,zzz] at h);try (exfalso;omega))|fail)
    refine v_frzP (r:=[]) μ' (List.Perm.of_eq (by simp)) ?_
    intro G5 hle5 hG5
    have s5:=hg.ints hG5 (byteL.wf hby)
    refine v_ret [] (outsA2 rfl rfl rfl) (List.nil_sublist _) ?_
    exact ⟨rfl,_,by rw [he];rfl,by rw [he,if_pos (show errsF f []=0 from rfl)];exact s5⟩
  ·rw [if_neg hck] at qc ⊢
   obtain ⟨iv,av,cv,rfl,hi,ha,hcv⟩:=id hh
   obtain ⟨A0,c0,rfl,-⟩:=hi.openInt
   obtain ⟨A1,c1,rfl,-⟩:=ha.open
   obtain ⟨A2,c2,rfl,-⟩:=hcv.open
   (refine v_enter Tryz.func12 rfl Tryz.ntmps12 rfl ?_;intro B _)
   repeat' (first|apply v_seq|apply v_region|apply v_nil|apply v_skip|apply v_pure;(case hop=>first|apply p_move<;>rfl|apply p_ne<;>rfl|apply p_assign<;>rfl|apply p_not<;>rfl|fail);(case hd=>rfl)|apply v_condF;(case hc=>rfl)|apply v_cond;(case hc=>rfl);all_goals (intro h;(try simp only [reduceCtorEq,zzz] at h);try (exfalso;omega))|apply v_callJ (hs:=qm);(case ha|hd=>rfl)|apply v_callJ (hs:=qc);(case ha|hd=>rfl)|apply v_read;(case hop=>(apply r_loadNo;(case hx=>rfl);(case h=>repeat exact mhd _);(case hd=>repeat first|with_reducible exact dt_nil|apply dt_here);(case hn=>rfl)));(case hd=>rfl)|apply v_box;(case hx|hz|hd=>rfl);intro b|fail)
   all_goals
    (refine v_ret [] (outsA2 rfl rfl rfl) (by repeat (exact List.nil_sublist _)) ?_
     exact ⟨rfl,_,rfl,by rw [if_neg (by decide)];exact Sl.nil⟩)
 ·rw [if_neg hf]
  rw [decide_eq_false hf] at qm
  obtain ⟨iv,av,cv,rfl,hi,ha,hcv⟩:=id hh
  obtain ⟨A0,c0,rfl,-⟩:=hi.openInt
  obtain ⟨A1,c1,rfl,-⟩:=ha.open
  obtain ⟨A2,c2,rfl,-⟩:=hcv.open
  (refine v_enter Tryz.func12 rfl Tryz.ntmps12 rfl ?_;intro B _)
  repeat' (first|apply v_seq|apply v_region|apply v_nil|apply v_pure;(case hop=>first|apply p_move<;>rfl|apply p_assign<;>rfl|apply p_not<;>rfl|fail);(case hd=>rfl)|apply v_condT;(case hc=>rfl)|apply v_callJ (hs:=qm);(case ha|hd=>rfl)|apply v_box;(case hx|hz|hd=>rfl);intro b|fail)
  all_goals
   (refine v_ret [] (outsA2 rfl rfl rfl) (by repeat (exact List.nil_sublist _)) ?_
    exact ⟨rfl,_,rfl,by rw [if_neg (by decide)];exact Sl.nil⟩)
open Classical in
noncomputable def decF (f:Int) (b:List Int):Option Rc:=if f=1 then (if decOk (some b) then some (decX (some b)) else none) else if f=2 then (if decTOk (some b) then some (decT (some b)).1 else none) else none
theorem decF1 (b:List Int):(decOk (some b)∧decF 1 b=some (decX (some b)))∨(¬ decOk (some b)∧decF 1 b=none):=by
 unfold decF
 rw [if_pos rfl]
 by_cases h:decOk (some b)
 ·rw [if_pos h];exact .inl ⟨h,rfl⟩
 ·rw [if_neg h];exact .inr ⟨h,rfl⟩
theorem decF2 (b:List Int):(decTOk (some b)∧decF 2 b=some (decT (some b)).1)∨(¬ decTOk (some b)∧decF 2 b=none):=by
 unfold decF
 rw [if_neg (by decide),if_pos rfl]
 by_cases h:decTOk (some b)
 ·rw [if_pos h];exact .inl ⟨h,rfl⟩
 ·rw [if_neg h];exact .inr ⟨h,rfl⟩
theorem decFN {f:Int}(h:¬ (f=1∨f=2)) (b:List Int):decF f b=none:=by
 unfold decF
 rw [if_neg (by omega),if_neg (by omega)]
theorem decF_enc {f:Int}{x:Rc}(h:errF f x=0) (hl:¬ x.large):decF f (encF f x)=some x:=by
 by_cases h1:f=1
 ·subst h1
  rw [errF1] at h
  have e:encF 1 x=encL x:=by unfold encF;rw [if_pos rfl]
  rw [e]
  obtain ⟨-,h2⟩|⟨h2,-⟩:=decF1 (encL x)
  ·rw [h2,(dec_enc h hl).1]
  ·exact absurd (decOk_enc h hl) h2
 ·by_cases h2:f=2
  ·subst h2
   rw [errF2] at h
   have e:encF 2 x=encT x:=by unfold encF;rw [if_neg (by decide)]
   rw [e]
   obtain ⟨-,h2⟩|⟨h2,-⟩:=decF2 (encT x)
   ·rw [h2,(decT_enc h).2]
   ·exact absurd (decT_enc h).1 h2
  ·rw [errFN (by omega)] at h
   cases h
theorem decF_inv {f:Int}{b:List Int}{x:Rc}(hb:byteL b) (h:decF f b=some x):(f=1∨f=2)∧errF f x=0∧encF f x=b∧x.cmd.ok∧x.small:=by
 have hby:byteS (some b):=fun r hr y hy=>by cases hr;exact hb y hy
 by_cases h1:f=1
 ·subst h1
  obtain ⟨h2,h3⟩|⟨-,h3⟩:=decF1 b
  ·rw [h3] at h
   obtain rfl:=Option.some.inj h
   have ho:=h2.2.2
   exact ⟨.inl rfl,by rw [errF1];exact ho,by unfold encF;rw [if_pos rfl];exact enc_dec hby h2,decX_ok hby,(fits0 (older0 ho).1).2.1⟩
  ·rw [h3] at h
   cases h
 ·by_cases h2:f=2
  ·subst h2
   obtain ⟨h2,h3⟩|⟨-,h3⟩:=decF2 b
   ·rw [h3] at h
    obtain rfl:=Option.some.inj h
    have ho:=h2.2.2.2
    exact ⟨.inr rfl,by rw [errF2];exact ho,by unfold encF;rw [if_neg (by decide)];exact encT_dec hby h2,rdX_ok (numS_b hby _),(fits0 (show recI _ _ _ _ _ _=0 from ho)).2.1⟩
   ·rw [h3] at h
    cases h
  ·rw [decFN (by omega)] at h
   cases h
theorem encL_size {x:Rc}(h:olderI x=0) (hi:x.image.length≤300):3≤(encL x).length∧(encL x).length≤7000:=by
 obtain ⟨hf,hsm,him,hsz⟩:=fits0 (older0 h).1
 have hh:=headL_len x
 have h3:3≤(headL x).length:=by
  have h1:=(vbytes_len x.kind).2
  have h2:=(vbytes_len x.round).2
  have h3:=(vbytes_len x.node).2
  unfold headL
  simp only [List.length_append]
  omega
 have h4:=(vbytes_len x.cmd.kind).1
 have h5:=putL_len x.cmd (by omega) (by omega) (by omega) 6
 have h6:=(vbytes_len (x.image.length:Nat)).1
 unfold encL
 split
 ·rw [List.length_append,List.length_append];omega
 ·split
  ·rw [List.length_append,List.length_append];omega
  ·omega
theorem encT_size {x:Rc}(h:chkI x=0) (hi:x.image.length≤300):3≤(encT x).length∧(encT x).length≤7000:=by
 have h0:recI x.kind x.round x.node x.index x.cmd x.image.length=0:=h
 obtain ⟨hf,hsm,him,hsz⟩:=fits0 h0
 have hk:=(rec0 h0).1
 have h1:=vbytes_len (x.kind+16)
 have h2:=vbytes_len x.round
 have h3:=vbytes_len x.node
 have h4:=vbytes_len x.index
 have h5:=vbytes_len x.cmd.kind
 have h6:=vbytes_len (x.image.length:Nat)
 have h7:=putW_len (wantB 2 x.cmd.kind) x.cmd (by omega) (by omega) (by omega) 6
 unfold encT tailT
 generalize vbytes (x.kind+16)=V at *
 obtain h|h|h|h:x.kind=1∨x.kind=2∨x.kind=3∨x.kind=4:=by omega
 all_goals
  simp [h]
  omega
theorem encF_size {f:Int}{x:Rc}(h:errF f x=0) (hi:x.image.length≤300):3≤(encF f x).length∧(encF f x).length≤7000:=by
 by_cases h1:f=1
 ·subst h1
  rw [errF1] at h
  unfold encF
  rw [if_pos rfl]
  exact encL_size h hi
 ·by_cases h2:f=2
  ·subst h2
   rw [errF2] at h
   unfold encF
   rw [if_neg (by decide)]
   exact encT_size h hi
  ·rw [errFN (by omega)] at h
   cases h
theorem encF_okC {f:Int}{x:Rc}(h:errF f x=0) (hl:¬ x.large) (hc:x.cmd.ok) (hi:wfL x.image):okC (encF f) (decF f) x:=by
 obtain ⟨h1,h2⟩:=encF_ok h hc hi
 exact ⟨⟨encF_one,by omega⟩,decF_enc h hl,wfL.byte h2⟩
def GetR (f:Int) (l:List Int) (r:Value) (G':GH) (μ':OH):Prop:=μ'=[]∧∃ x v e,r=.tuple [v,.int .i64 e].toArray∧RcV G' x v∧((decF f l=some x∧e=0)∨(decF f l=none∧e≠0))
theorem getF_s {G:GH}(hT:TabsG G) (f:Int) {l:List Int}{bv:Value}(hs:Sl G 1 (IntR .u8) bv l) (hl:l.length≤1048000):Con Tryz.prog 107 #[.int .i64 f,bv] G [] (GetR f l):=by
 by_cases h1:f=1
 ·subst h1
  refine (get1_s hT hs hl).mono ?_
  rintro r G' μ' ⟨rfl,x,v,e,rfl,hx,hc⟩
  refine ⟨rfl,x,v,e,rfl,hx,?_⟩
  obtain ⟨g1,g2⟩|⟨g1,g2⟩:=decF1 l
  ·obtain ⟨-,rfl,rfl⟩|⟨h,-⟩:=hc
   ·exact .inl ⟨g2,rfl⟩
   ·exact absurd g1 h
  ·obtain ⟨h,-⟩|⟨-,rfl,h⟩:=hc
   ·exact absurd h g1
   ·exact .inr ⟨g2,h⟩
 ·by_cases h2:f=2
  ·subst h2
   refine (get2_s hT hs hl).mono ?_
   rintro r G' μ' ⟨rfl,x,v,e,rfl,hx,hc⟩
   refine ⟨rfl,x,v,e,rfl,hx,?_⟩
   obtain ⟨g1,g2⟩|⟨g1,g2⟩:=decF2 l
   ·obtain ⟨-,rfl,rfl⟩|⟨h,-⟩:=hc
    ·exact .inl ⟨g2,rfl⟩
    ·exact absurd g1 h
   ·obtain ⟨h,-⟩|⟨-,rfl,h⟩:=hc
    ·exact absurd h g1
    ·exact .inr ⟨g2,h⟩
  ·refine (getN_s (by omega) bv).mono ?_
   rintro r G' μ' ⟨rfl,rfl,rfl⟩
   exact ⟨rfl,zeroRc,_,8,rfl,⟨_,rfl,Sl.nil⟩,.inr ⟨decFN (by omega) _,by decide⟩⟩
def rdL (bv:Value) (at_ f:Int) (lv:Value):List Value:=[bv,.int .i64 at_,.int .i64 f,.int .i64 0,.int .i64 0,.int .i64 0,.slice none 0 0,.slice none 0 0,.slice none 0 0,.int .i64 0,.int .i64 0,lv]
abbrev sgO (bv:Value) (at_ f:Int) (lv:Value):Obj:=.cells (rdL bv at_ f lv).toArray 106 (0,0)
def BegR (B:List Int) (rb:Nat) (sv:Value) (r:Value) (μ':OH):Prop := ∃ (at_:Nat) (f n:Int) (is:Bool),at_≤B.length∧r=.tuple [.int .i64 n,.bool is].toArray∧μ'=[(rb,sgO sv (at_:Nat) f (.slice none 0 0))]∧((nextF B=none∧is=false)∨∃ hd t,nextF B=some (hd,t)∧at_=B.length-t.length∧f=(headF B.length hd).1∧n=(headF B.length hd).2.1∧is=decide ((headF B.length hd).2.2=true∧((headF B.length hd).1=1∨(headF B.length hd).1=2)))
theorem nextF_body {l b r:List Int}(hw:byteL l) (h:nextF l=some (b,r)):b.length≤l.length∧r.length≤l.length:=by
 obtain ⟨e,-⟩:=nextF_inv hw h
 have h1:=congrArg List.length e
 have h2:=frB_len b
 rw [List.length_append] at h1
 omega
theorem begin_s {G:GH}(hC:CrcG G) {D:List Int}{sv:Value}(rb:Nat) (hs:Sl G 1 (IntR .u8) sv D) (hl:D.length≤1048000):Con Tryz.prog 61 #[.pointer (some ⟨rb,0,none⟩)] G [(rb,sgO sv 0 0 (.slice none 0 0))] (fun r G' μ'=>BegR D rb sv r μ'):=by
 have q1:=fnext_s hC 0 hs (by omega) (by omega)
 have hbd:=fun b r=>nextF_body (l:=D) (b:=b) (r:=r) (fun y hy=>sl_byte hs y hy)
 unfold BegR
 unfold NextR at q1
 rw [List.drop_zero] at q1
 obtain ⟨A,c,rfl,-⟩:=id hs.openInt
 (refine v_enter Tryz.func61 rfl Tryz.ntmps61 rfl ?_;intro B _)
 repeat' (first|apply v_seq|apply v_region|apply v_nil|apply v_pure;(case hop=>first|apply p_move<;>rfl|apply p_assign<;>rfl|apply p_fieldAddrB<;>rfl|apply p_nilCheck<;>rfl|fail);(case hd=>rfl)|apply v_read;(case hop=>(apply r_load1;rfl;(apply Cell.own;(case h=>repeat exact mhd _);rfl)));(case hd=>rfl)|fail)
 refine v_call (μ1:=[]) rfl q1 (List.Perm.refl _) rfl ?_
 rintro _ G1 _ hle1 ⟨rfl,v,z,e,rfl,⟨hd,t,hn,sv1,rfl,rfl⟩|⟨hn,he,rfl,rfl⟩⟩
 ·obtain ⟨A1,c1,rfl,-⟩:=id sv1.openInt
  have hbl:=hbd _ _ hn
  repeat' (first|apply v_seq|apply v_region|apply v_nil|apply v_skip|apply v_pure;(case hop=>first|apply p_move<;>rfl|apply p_nes<;>rfl|apply p_assign<;>rfl|apply p_extract0<;>rfl|apply p_extract1<;>rfl|apply p_extract2<;>rfl|fail);(case hd=>rfl)|apply v_condF;(case hc=>rfl)|fail)
  refine v_call (μ1:=[]) rfl (newReader_s sv1 (by omega)) (List.Perm.refl _) rfl ?_
  rintro _ G2 _ - ⟨hle2,b1,bv1,rfl,rfl,hs1⟩
  have hr0:RdS hd 0 0 (some hd):=⟨by omega,.inr ⟨by simp,rfl⟩⟩
  repeat' (first|apply v_seq|apply v_region|apply v_nil|apply v_pure;(case hop=>first|apply p_move<;>rfl|apply p_assign<;>rfl|fail);(case hd=>rfl)|fail)
  refine v_call (μ1:=[(b1,_)]) rfl (rdNumber_s b1 _ _ 2 hs1 (by omega) hr0) (PickA.perm (by repeat (exact PickA.here _))) rfl ?_
  rintro _ _ _ - ⟨rfl,rfl,a1,no1,rfl,hr1⟩
  repeat' (first|apply v_seq|apply v_region|apply v_nil|apply v_pure;(case hop=>first|apply p_move<;>rfl|apply p_lenSlice<;>rfl|apply p_fieldAddrB<;>rfl|apply p_nilCheck<;>rfl|fail);(case hd=>rfl)|apply v_read;(case hop=>(apply r_load1;rfl;(apply Cell.own;(case h=>repeat first|exact mhd _|apply mtl);rfl)));(case hd=>rfl)|apply v_store;(case hp|hx|hc|hsz|h1=>rfl);(case hb=>repeat first|exact mhd _|apply mtl);(case hfit=>exact nle rfl);(case hov=>((repeat (first|with_reducible exact ov_nil|apply ov_cons));done));(case hu=>repeat first|exact Upd.here _ _|apply Upd.there)|fail)
  refine v_call (μ1:=[(b1,_)]) rfl (rdNumber_s b1 _ _ (D.length:Nat) hs1 (by omega) hr1) (PickA.perm (by repeat (exact PickA.here _))) rfl ?_
  rintro _ _ _ - ⟨rfl,rfl,a2,no2,rfl,hr2⟩
  repeat' (first|apply v_seq|apply v_region|apply v_nil|apply v_pure;(case hop=>first|apply p_move<;>rfl|apply p_assign<;>rfl|apply p_fieldAddrB<;>rfl|apply p_nilCheck<;>rfl|fail);(case hd=>rfl)|apply v_store;(case hp|hx|hc|hsz|h1=>rfl);(case hb=>repeat first|exact mhd _|apply mtl);(case hfit=>exact nle rfl);(case hov=>((repeat (first|with_reducible exact ov_nil|apply ov_cons));done));(case hu=>repeat first|exact Upd.here _ _|apply Upd.there)|fail)
  refine v_call (μ1:=[(b1,_)]) rfl (rdDone_s b1 _ _ hs1 (by omega) hr2) (PickA.perm (by repeat (exact PickA.here _))) rfl ?_
  rintro _ _ _ - ⟨rfl,⟨ed,rfl,hed⟩,rfl⟩
  have qm:=fun G=>vmay_s G (numV 2 (some hd))
  have hh:headF (D.length:Nat) hd=(numV 2 (some hd),numV (D.length:Nat) (numS 2 (some hd)),decide (ed=0)):=by unfold headF;simp only [← hed]
  clear hed hr0 hr1 hr2
  generalize numV (D.length:Nat) (numS 2 (some hd))=nn at *
  generalize numV 2 (some hd)=f at *
  repeat' (first|apply v_nil|apply v_take;(case hg=>rfl)|apply v_pass;(case hg|hn|hd=>rfl)|apply v_pure;(case hop=>first|apply p_move<;>rfl|apply p_eq<;>rfl|apply p_assign<;>rfl|apply p_pickT<;>rfl|apply p_pickF<;>rfl|apply p_fieldAddrB<;>rfl|apply p_nilCheck<;>rfl|fail);(case hd=>rfl)|apply v_guardB;(case h1|h2=>rfl);all_goals (intro h;(try simp only [reduceCtorEq,zzz] at h))|apply v_callJ (hs:=qm _);(case ha|hd=>rfl)|apply v_read;(case hop=>(apply r_load1;rfl;(apply Cell.own;(case h=>repeat first|exact mhd _|apply mtl);rfl)));(case hd=>rfl)|fail)
  all_goals
   refine v_ret [(rb,_)] (outsA2 rfl rfl rfl) (by repeat (first|exact List.Sublist.refl _|apply List.Sublist.cons)) ?_
   refine ⟨_,_,_,_,(by omega:D.length-t.length≤D.length),rfl,rfl,.inr ⟨hd,t,hn,rfl,by rw [hh],by rw [hh],?_⟩⟩
   simp only [hh,decide_eq_true_eq]
   simp [*]
  all_goals vx_show
 ·repeat' (first|apply v_seq|apply v_region|apply v_nil|apply v_pure;(case hop=>first|apply p_move<;>rfl|apply p_ne<;>rfl|apply p_assign<;>rfl|apply p_extract0<;>rfl|apply p_extract1<;>rfl|apply p_extract2<;>rfl|fail);(case hd=>rfl)|apply v_cond;(case hc=>rfl);all_goals (intro h;(try simp only [reduceCtorEq,zzz] at h);try (exfalso;omega))|fail)
  refine v_ret [(rb,_)] (outsA2 rfl rfl rfl) (by repeat (exact List.Sublist.refl _)) ?_
  exact ⟨0,_,_,_,by omega,rfl,rfl,.inl ⟨hn,rfl⟩⟩
def NxtR (D:List Int) (rb:Nat) (sv:Value) (at_:Nat) (f:Int) (xs:List Rc) (r:Value) (G':GH) (μ':OH):Prop := ∃ (ok:Bool) (at':Nat) (lv':Value) (ν':OH) (xs':List Rc),r=.bool ok∧μ'.Perm ((rb,sgO sv (at':Nat) f lv')::ν')∧GrowR G' lv' xs' ν'∧((ok=false∧at'=at_∧xs'=xs∧(nextF (D.drop at_)=none∨∃ b t,nextF (D.drop at_)=some (b,t)∧decF f b=none))∨(ok=true∧∃ b t x,nextF (D.drop at_)=some (b,t)∧decF f b=some x∧xs'=xs++[x]∧at'=D.length-t.length))
set_option maxHeartbeats 1000000 in
theorem next_s {G:GH}(hT:TabsG G) (hC:CrcG G) {D:List Int}{sv lv:Value}(rb at_:Nat) (f:Int) {xs:List Rc}{ν:OH}(hs:Sl G 1 (IntR .u8) sv D) (hl:D.length≤1048000) (ha:at_≤D.length) (hx:xs.length≤1048000) (hg:GrowR G lv xs ν):Con Tryz.prog 63 #[.pointer (some ⟨rb,0,none⟩)] G ((rb,sgO sv (at_:Nat) f lv)::ν) (NxtR D rb sv at_ f xs):=by
 have q1:=fnext_s hC at_ hs (by omega) ha
 have hbd:=fun b r=>nextF_body (l:=D.drop at_) (b:=b) (r:=r) (fun y hy=>sl_byte hs y (List.mem_of_mem_drop hy))
 unfold NxtR
 unfold NextR at q1
 obtain ⟨A,c,rfl,-⟩:=id hs.openInt
 obtain ⟨css,hcl,hcr,hgr⟩:=id hg
 obtain ⟨Ag,cg,rfl,hgl,hgm⟩:=id hgr.shape
 (refine v_enter Tryz.func63 rfl Tryz.ntmps63 rfl ?_;intro B _)
 repeat' (first|apply v_seq|apply v_region|apply v_nil|apply v_pure;(case hop=>(apply p_assign<;>rfl));(case hd=>rfl)|fail)
 refine d_start [(rb,sgO (.slice A D.length c) (at_:Nat) f (.slice Ag xs.length cg))] (by kernel_rfl) (by kernel_rfl) (by kernel_rfl) (by intro e he;(simp at he;simp [he];done)) ?_
 all_goals (apply dtm 0;(case hi|hx=>rfl);(case hq=>kernel_rfl);apply dtn 1;(case hi|hx=>rfl);(case hq=>kernel_rfl))
 all_goals (apply dtk 2;(case hi=>rfl);(case hop=>(apply prd;apply p_fieldAddrB<;>rfl));(case hq=>kernel_rfl);apply dtk 3;(case hi=>rfl);(case hop=>first|apply r_loadNo;(case hx=>rfl);(case h=>repeat fail);(case hd=>repeat fail);(case hn=>rfl)|apply r_load1;rfl;(apply Cell.own;(case h=>repeat exact mhd _);rfl)|apply r_loadN;rfl;(apply CellsAt.own;(case h=>repeat fail));rfl);(case hq=>kernel_rfl))
 all_goals (apply dtm 4;(case hi|hx=>rfl);(case hq=>kernel_rfl);apply dtn 5;(case hi|hx=>rfl);(case hq=>kernel_rfl))
 all_goals (apply dtk 6;(case hi=>rfl);(case hop=>(apply prd;apply p_fieldAddrB<;>rfl));(case hq=>kernel_rfl);apply dtk 7;(case hi=>rfl);(case hop=>first|apply r_loadNo;(case hx=>rfl);(case h=>repeat fail);(case hd=>repeat fail);(case hn=>rfl)|apply r_load1;rfl;(apply Cell.own;(case h=>repeat exact mhd _);rfl)|apply r_loadN;rfl;(apply CellsAt.own;(case h=>repeat fail));rfl);(case hq=>kernel_rfl))
 all_goals ((apply d_call 8 (hs:=q1) (μ1:=[]);(case hi=>rfl);(case hr=>kernel_rfl);(case ha=>rfl);(case hp=>exact List.Perm.refl _);(case hd=>rfl);(case hν'=>intro e he;simp at he;simp [he]);rintro _ G1 _ hle1 ⟨rfl,v,z,e,rfl,hcase⟩))
 all_goals (apply dtm 9;(case hi|hx=>rfl);(case hq=>kernel_rfl);apply dtk 10;(case hi=>rfl);(case hop=>(apply prd;apply p_extract0<;>rfl));(case hq=>kernel_rfl))
 all_goals (apply dtk 11;(case hi=>rfl);(case hop=>(apply prd;apply p_extract1<;>rfl));(case hq=>kernel_rfl);apply dtk 12;(case hi=>rfl);(case hop=>(apply prd;apply p_extract2<;>rfl));(case hq=>kernel_rfl))
 all_goals (apply dta 13;(case hi|hx=>rfl);(case hq=>kernel_rfl);apply dta 14;(case hi|hx=>rfl);(case hq=>kernel_rfl))
 all_goals (apply dta 15;(case hi|hx=>rfl);(case hq=>kernel_rfl))
 all_goals (apply d_done;(case hr=>kernel_rfl))
 obtain ⟨bd,t,hn,sv1,rfl,rfl⟩|⟨hn,he,rfl,rfl⟩:=hcase
 rotate_left
 ·repeat' (first|apply v_seq|apply v_region|apply v_nil|apply v_pure;(case hop=>first|apply p_move<;>rfl|apply p_ne<;>rfl|apply p_assign<;>rfl|fail);(case hd=>rfl)|apply v_cond;(case hc=>rfl);all_goals (intro h;(try simp only [reduceCtorEq,zzz] at h);try (exfalso;omega))|fail)
  refine v_ret _ (outsA1 rfl rfl) (List.Sublist.refl _) ?_
  exact ⟨_,at_,_,ν,xs,rfl,List.Perm.refl _,hg.le hle1,.inl ⟨rfl,rfl,rfl,.inl hn⟩⟩
 obtain ⟨A1,c1,rfl,-⟩:=id sv1.openInt
 have hbl:=hbd _ _ hn
 rw [List.length_drop] at hbl
 repeat' (first|apply v_seq|apply v_region|apply v_nil|apply v_skip|apply v_pure;(case hop=>first|apply p_move<;>rfl|apply p_nes<;>rfl|apply p_fieldAddrB<;>rfl|apply p_nilCheck<;>rfl|fail);(case hd=>rfl)|apply v_condF;(case hc=>rfl)|apply v_read;(case hop=>(apply r_load1;rfl;(apply Cell.own;(case h=>repeat exact mhd _);rfl)));(case hd=>rfl)|fail)
 refine v_call (μ1:=[]) rfl (getF_s (hT.le hle1) f sv1 (by omega)) (List.Perm.refl _) rfl ?_
 rintro _ G2 _ hle2 ⟨rfl,x,xv,e,rfl,hxv,hcase⟩
 have hle:=GH.le_trans hle1 hle2
 obtain ⟨iv,rfl,hix⟩:=id hxv
 obtain ⟨Ai,ci,hie,-⟩:=id hix.openInt
 subst hie
 obtain ⟨hd,rfl⟩|⟨hd,he⟩:=hcase
 rotate_left
 ·repeat' (first|apply v_seq|apply v_region|apply v_nil|apply v_pure;(case hop=>first|apply p_move<;>rfl|apply p_ne<;>rfl|apply p_assign<;>rfl|apply p_extract0<;>rfl|apply p_extract1<;>rfl|fail);(case hd=>rfl)|apply v_cond;(case hc=>rfl);all_goals (intro h;(try simp only [reduceCtorEq,zzz] at h);try (exfalso;omega))|apply v_alloc;(case hz|hd=>rfl);intro b|apply v_store;(case hp|hx|hc|hsz|h1=>rfl);(case hb=>repeat exact mhd _);(case hfit=>exact nle rfl);(case hov=>((repeat (first|with_reducible exact ov_nil|apply ov_cons));done));(case hu=>repeat (exact Upd.here _ _))|fail)
  all_goals first
   |(exfalso;omega)
   |(refine v_ret ((rb,sgO _ _ _ _)::ν) (outsA1 rfl rfl) (by repeat (first|exact List.Sublist.refl _|apply List.Sublist.cons)) ?_
     exact ⟨_,at_,_,ν,xs,rfl,List.Perm.refl _,hg.le hle,.inl ⟨rfl,rfl,rfl,.inr ⟨bd,t,hn,hd⟩⟩⟩)
 obtain ⟨-,-,-,hco,hsm⟩:=decF_inv (fun y hy=>sl_byte sv1 y hy) hd
 repeat' (first|apply v_seq|apply v_region|apply v_nil|apply v_skip|apply v_pure;(case hop=>first|apply p_move<;>rfl|apply p_nes<;>rfl|apply p_assign<;>rfl|apply p_extract0<;>rfl|apply p_extract1<;>rfl|fail);(case hd=>rfl)|apply v_condF;(case hc=>rfl)|apply v_alloc;(case hz|hd=>rfl);intro b|apply v_store;(case hp|hx|hc|hsz|h1=>rfl);(case hb=>repeat exact mhd _);(case hfit=>exact nle rfl);(case hov=>((repeat (first|with_reducible exact ov_nil|apply ov_cons));done));(case hu=>repeat (exact Upd.here _ _))|fail)
 revert b
 intro xb
 refine d_start [(xb,.cells #[.int .i64 x.kind,.int .i64 x.round,.int .i64 x.node,.int .i64 x.index,.int .i64 x.cmd.kind,.int .i64 x.cmd.client,.int .i64 x.cmd.seq,.string x.cmd.key,.string x.cmd.val,.string x.cmd.old,.int .i64 x.cmd.node,.slice Ai x.image.length ci] 42 (0,0))] (by kernel_rfl) (by kernel_rfl) (by kernel_rfl) (by intro e he;(simp at he;simp [he];done)) ?_
 all_goals (apply dtm 0;(case hi|hx=>rfl);(case hq=>kernel_rfl);apply dtm 1;(case hi|hx=>rfl);(case hq=>kernel_rfl))
 all_goals (apply dtn 2;(case hi|hx=>rfl);(case hq=>kernel_rfl);apply dtk 3;(case hi=>rfl);(case hop=>(apply prd;apply p_fieldAddrB<;>rfl));(case hq=>kernel_rfl))
 all_goals (apply dtk 5;(case hi=>rfl);(case hop=>first|apply r_loadNo;(case hx=>rfl);(case h=>repeat exact mhd _);(case hd=>repeat first|with_reducible exact dt_nil|apply dt_here);(case hn=>rfl)|apply r_load1;rfl;(apply Cell.own;(case h=>repeat fail);rfl)|apply r_loadN;rfl;(apply CellsAt.own;(case h=>repeat fail));rfl);(case hq=>kernel_rfl))
 focus
  refine d_fork 4 6 (by kernel_rfl) ?_ ?_
  rotate_right
  focus
   (apply x_buildSlice 6;(case hi=>rfl);(case hT=>infer_instance);(case hL=>infer_instance);(case hz|hl=>rfl);(case hv=>(simp only [List.map_cons,List.map_nil];repeat (first|with_reducible exact evs_nil|apply evs_cons;(case h1=>rfl))));(case hp=>(apply pk_cons;(case hc|hs=>rfl);(case h=>(with_reducible exact pk_nil));(case he=>((repeat (first|with_reducible exact ap_nil|apply ap_cons));done))));(case hb|hd=>rfl);(case hν=>intro e he;(simp at he;simp [he];done));intro bb)
   all_goals (apply d_keep 4 (hop:=ReadOp.move ?hop);(case hi=>rfl);(case hr=>kernel_rfl);(case hop=>(apply r_load1;rfl;(apply Cell.own;(case h=>repeat first|exact mhd _|apply mtl);rfl)));(case hd=>rfl))
   all_goals (apply d_append 7 (hg:=hgr) (q':=1) (us:=recL x.kind x.round x.node x.index x.cmd (.slice Ai x.image.length ci)) (hp:=PickA.perm (by repeat (first|exact PickA.last|apply PickA.cons))) (hsrc:=Src.own (e:=42) (by repeat (exact mhd _)) rfl);(case hi=>rfl);(case hr=>kernel_rfl);(case hT=>infer_instance);(case hL=>infer_instance);(case hzs=>rfl);(case hsz=>omega);(case hs|hx=>rfl);(case hb=>omega);(case hb'=>simp only [maxLen];omega);(case hd|h1=>rfl);(case hν=>intro e he;(simp at he;simp [he];done));intro v3 n3 hg3;obtain ⟨A3,c3,rfl,-,-⟩:=hg3.shape)
   all_goals (apply dtn 8;(case hi|hx=>rfl);(case hq=>kernel_rfl);apply dtk 9;(case hi=>rfl);(case hop=>(apply prd;apply p_fieldAddrB<;>rfl));(case hq=>kernel_rfl))
   all_goals (apply d_store 10;(case hi=>rfl);(case hr=>kernel_rfl);(case hL=>infer_instance);(case hp|hx|hc|hsz|h1=>rfl);(case hb=>repeat first|exact mhd _|apply mtl|apply List.mem_append_right);(case hfit=>exact nle rfl);(case hov=>((repeat (first|with_reducible exact ov_nil|apply ov_cons));done));(case hu=>repeat first|exact Upd.here _ _|apply Upd.there|apply Upd.app);(case hν'=>intro e he;simp at he;simp [he]))
   all_goals (apply d_done;(case hr=>kernel_rfl))
  rotate_right
  focus
   (apply x_exec 4;(case hi=>rfl);(case hop=>exact ReadOp.move (r_load1 rfl (Cell.own (by repeat (first|exact mhd _|apply mtl)) rfl)));(case hd=>rfl);rintro _ G0 _ ⟨rfl,hG0,rfl⟩;subst G0;refine ⟨(by intro e he;simp at he;simp [he]),?_⟩)
   all_goals (apply d_buildSlice 6;(case hi=>rfl);(case hr=>kernel_rfl);(case hT=>infer_instance);(case hL=>infer_instance);(case hz|hl=>rfl);(case hv=>(simp only [List.map_cons,List.map_nil];repeat (first|with_reducible exact evs_nil|apply evs_cons;(case h1=>rfl))));(case hp=>(apply pk_cons;(case hc|hs=>rfl);(case h=>(with_reducible exact pk_nil));(case he=>((repeat (first|with_reducible exact ap_nil|apply ap_cons));done))));(case hb|hd=>rfl);(case hν=>intro e he;(simp at he;simp [he];done));intro bb)
   all_goals (apply d_append 7 (hg:=hgr) (q':=1) (us:=recL x.kind x.round x.node x.index x.cmd (.slice Ai x.image.length ci)) (hp:=PickA.perm (by repeat (first|exact PickA.last|apply PickA.cons))) (hsrc:=Src.own (e:=42) (by repeat (exact mhd _)) rfl);(case hi=>rfl);(case hr=>kernel_rfl);(case hT=>infer_instance);(case hL=>infer_instance);(case hzs=>rfl);(case hsz=>omega);(case hs|hx=>rfl);(case hb=>omega);(case hb'=>simp only [maxLen];omega);(case hd|h1=>rfl);(case hν=>intro e he;(simp at he;simp [he];done));intro v3 n3 hg3;obtain ⟨A3,c3,rfl,-,-⟩:=hg3.shape)
   all_goals (apply dtn 8;(case hi|hx=>rfl);(case hq=>kernel_rfl);apply dtk 9;(case hi=>rfl);(case hop=>(apply prd;apply p_fieldAddrB<;>rfl));(case hq=>kernel_rfl))
   all_goals (apply d_store 10;(case hi=>rfl);(case hr=>kernel_rfl);(case hL=>infer_instance);(case hp|hx|hc|hsz|h1=>rfl);(case hb=>repeat first|exact mhd _|apply mtl|apply List.mem_append_right);(case hfit=>exact nle rfl);(case hov=>((repeat (first|with_reducible exact ov_nil|apply ov_cons));done));(case hu=>repeat first|exact Upd.here _ _|apply Upd.there|apply Upd.app);(case hν'=>intro e he;simp at he;simp [he]))
   all_goals (apply d_done;(case hr=>kernel_rfl))
 all_goals
  repeat' (first|apply v_seq|apply v_region|apply v_nil|apply v_pure;(case hop=>first|apply p_move<;>rfl|apply p_assign<;>rfl|apply p_fieldAddrB<;>rfl|apply p_nilCheck<;>rfl|fail);(case hd=>rfl)|apply v_store;(case hp|hx|hc|hsz|h1=>rfl);(case hb=>repeat first|exact mhd _|apply mtl|apply List.mem_append_right);(case hfit=>exact nle rfl);(case hov=>((repeat (first|with_reducible exact ov_nil|apply ov_cons));done));(case hu=>repeat first|exact Upd.here _ _|apply Upd.there|apply Upd.app)|fail)
  refine v_ret (n3++[(rb,sgO (.slice A D.length c) ((D.length-t.length:Nat):Int) f (.slice A3 (xs.length+1) c3))]) (outsA1 rfl rfl) (List.Sublist.append_left (by repeat (first|exact List.Sublist.refl _|apply List.Sublist.cons)) _) ?_
  exact ⟨_,D.length-t.length,_,n3,xs++[x],rfl,List.perm_append_singleton _ _,GrowR.snoc hcl (fun i y cs h1 h2=>(hcr i y cs h1 h2).le hle) hg3 ⟨_,rfl,hco,hsm,hix⟩,.inr ⟨rfl,bd,t,x,hn,hd,rfl,rfl⟩⟩
theorem more_s {G:GH}{D:List Int}{sv lv:Value}(rb ib pb at_:Nat) (f:Int) {xs:List Rc}{ν:OH}(is:Bool) (q:Con Tryz.prog 63 #[.pointer (some ⟨rb,0,none⟩)] G ((rb,sgO sv (at_:Nat) f lv)::ν) (NxtR D rb sv at_ f xs)) :
 Con Tryz.prog 62 #[.pointer (some ⟨ib,0,none⟩),.pointer (some ⟨pb,0,none⟩)] G ([(ib,.cells #[.bool is] 4 (0,0)),(pb,.cells #[.pointer (some ⟨rb,0,none⟩)] 104 (0,0))]++(rb,sgO sv (at_:Nat) f lv)::ν) (fun r G' μ'=>∃ ν',μ'.Perm ([(ib,.cells #[.bool is] 4 (0,0)),(pb,.cells #[.pointer (some ⟨rb,0,none⟩)] 104 (0,0))]++ν')∧((is=false∧r=.bool false∧G'=G∧ν'=(rb,sgO sv (at_:Nat) f lv)::ν)∨(is=true∧NxtR D rb sv at_ f xs r G' ν'))):=by
 (refine v_enter Tryz.func62 rfl Tryz.ntmps62 rfl ?_;intro B _)
 cases is
 ·repeat' (first|apply v_seq|apply v_region|apply v_nil|apply v_pass;(case hg|hn|hd=>rfl)|apply v_pure;(case hop=>first|apply p_move<;>rfl|apply p_assign<;>rfl|apply p_pickF<;>rfl|fail);(case hd=>rfl)|apply v_read;(case hop=>(apply r_load1;rfl;(apply Cell.own;(case h=>repeat exact mhd _);rfl)));(case hd=>rfl)|fail)
  exact v_ret _ (outsA1 rfl rfl) (List.Sublist.refl _) ⟨_,List.Perm.refl _,.inl ⟨rfl,rfl,rfl,rfl⟩⟩
 ·repeat' (first|apply v_seq|apply v_region|apply v_nil|apply v_take;(case hg=>rfl)|apply v_pure;(case hop=>first|apply p_move<;>rfl|apply p_assign<;>rfl|fail);(case hd=>rfl)|apply v_read;(case hop=>(apply r_load1;rfl;(apply Cell.own;(case h=>repeat first|exact mhd _|apply mtl);rfl)));(case hd=>rfl)|fail)
  refine v_call (μ1:=(rb,sgO sv (at_:Nat) f lv)::ν) rfl q List.perm_append_comm rfl ?_
  rintro _ G1 ν1 - ⟨ok,at',lv',ν',xs',rfl,hp,hg,hc⟩
  repeat' (first|apply v_nil|apply v_pure;(case hop=>first|apply p_assign<;>rfl|apply p_pickT<;>rfl|fail);(case hd=>rfl)|fail)
  exact v_ret _ (outsA1 rfl rfl) (List.Sublist.refl _) ⟨ν1,List.perm_append_comm,.inr ⟨rfl,ok,at',lv',ν',xs',rfl,hp,hg,hc⟩⟩
section
attribute [local semireducible] Vc DVc Con PureOp ReadOp MoveOp
theorem d_fork3 {P:Program}{fn:Func}{n:Nat}{B:Base}{Φ:Value→GH→OH→Prop}{k:List It}{σ:Env}{G G0:GH}{μ:OH}{all:Array Oper}{m:Nat}{listed:Array Bool}{ν:OH}(i j l:Nat) (hr:Region.ready .any all listed=[i,j,l]) (h1:DX P fn n B Φ all G0 ν m listed k σ G μ i) (h2:DX P fn n B Φ all G0 ν m listed k σ G μ j) (h3:DX P fn n B Φ all G0 ν m listed k σ G μ l):DVc P fn n B Φ all G0 ν (m+1) listed k σ G μ:=by
 intro hsel hle hν w hw a ha
 refine wpAnyH_all hr (by simp) fun x hx=>?_
 simp only [List.mem_cons,List.mem_singleton,List.not_mem_nil,or_false] at hx
 obtain rfl|rfl|rfl:=hx
 ·exact h1 hsel hle hν w hw a ha
 ·exact h2 hsel hle hν w hw a ha
 ·exact h3 hsel hle hν w hw a ha
end
end Go.Proofs.YtpemabgfmnhhnaaGreatDoor
/-
  segm.Read.
-/
namespace Go.Proofs.YtpemabgfmnhhnaaGreatDoor
open Go.Vx Go.ChangeShapes Go.WideShapes Go.ChangeAt Go.RowKit
section
variable {α:Type}(dec:List Int→Option α)
theorem recsF_step {D:Nat}{l b t:List Int}{x:α}(hw:byteL l) (hl:l.length≤D) (h:nextF l=some (b,t)) (hd:dec b=some x):recsF dec D l=(x::(recsF dec D t).1,(recsF dec D t).2):=by
 obtain ⟨e,-⟩:=nextF_inv hw h
 have h1:=congrArg List.length e
 have h2:=frB_pos b
 rw [List.length_append] at h1
 obtain ⟨n,rfl⟩:∃ n,D=n+1:=⟨D-1,by omega⟩
 have hr:byteL t:=fun y hy=>hw y (by rw [e];exact List.mem_append_right _ hy)
 rw [recsF_some dec h hd,recsF_fuel dec n (n+1) t hr (by omega) (by omega)]
end
theorem next_drop {D b t:List Int}{a:Nat}(hw:byteL D) (h:nextF (D.drop a)=some (b,t)):t=D.drop (D.length-t.length)∧D.length-t.length≤D.length∧t.length<D.length-a:=by
 obtain ⟨e,-⟩:=nextF_inv (fun y hy=>hw y (List.mem_of_mem_drop hy)) h
 have h1:=congrArg List.length e
 have h2:=frB_pos b
 rw [List.length_append,List.length_drop] at h1
 refine ⟨?_,by omega,by omega⟩
 have h3:(D.drop a).drop (frB b).length=t:=by rw [e,List.drop_left]
 rw [List.drop_drop] at h3
 rw [show D.length-t.length=a+(frB b).length by omega]
 exact h3.symm
def ctL (f:Int) (L:List Value) (k b:Int):List Value:=.int .i64 f::(L++[.int .i64 k,.int .i64 b])
def ReadR (D:List Int) (r:Value) (G':GH) (μ':OH):Prop:=μ'=[]∧((readF decF D=none∧r=.tuple [.agg (ctL 0 (hdL 0 0 0 (.slice none 0 0) (.slice none 0 0) (.slice none 0 0)) 0 0).toArray,.int .i64 17].toArray)∨∃ f xs k L,readF decF D=some (f,xs,k)∧r=.tuple [.agg (ctL f L (xs.length:Nat) (k:Nat)).toArray,.int .i64 0].toArray∧HdV G' (hardOf xs) L)
set_option maxHeartbeats 1000000 in
theorem sread_s {G:GH}(hT:TabsG G) (hC:CrcG G) {D:List Int}{sv:Value}(hs:Sl G 1 (IntR .u8) sv D) (hl:D.length≤1048000) (hfew:∀ f xs k,readF decF D=some (f,xs,k)→xs.length≤200):Con Tryz.prog 21 #[sv] G [] (ReadR D):=by
 have hw:byteL D:=fun y hy=>sl_byte hs y hy
 obtain ⟨A,c,rfl,-⟩:=id hs.openInt
 (refine v_enter Tryz.func21 rfl Tryz.ntmps21 rfl ?_;intro B _)
 repeat' (first|apply v_seq|apply v_region|apply v_nil|apply v_pure;(case hop=>first|apply p_move<;>rfl|apply p_assign<;>rfl|apply p_build;(case hz=>rfl);(case hv=>(simp only [List.map_cons,List.map_nil];repeat (first|with_reducible exact evs_nil|apply evs_cons;(case h1=>rfl))));(case hb=>(apply bldL;repeat (first|exact bld_nil|apply bld_cons;(case hpf|hc|hs|hl=>rfl);(case ho=>((repeat (first|with_reducible exact ov_nil|apply ov_cons));done)))))|fail);(case hd=>rfl)|apply v_read;(case hop=>(apply r_load1;rfl;(apply Cell.own;(case h=>repeat exact mhd _);rfl)));(case hd=>rfl)|apply v_alloc;(case hz|hd=>rfl);intro b|apply v_box;(case hx|hz|hd=>rfl);intro b|apply v_store;(case hp|hx|hc|hsz|h1=>rfl);(case hb=>repeat exact mhd _);(case hfit=>exact nle rfl);(case hov=>((repeat (first|with_reducible exact ov_nil|apply ov_cons));done));(case hu=>repeat (exact Upd.here _ _))|fail)
 rename_i cb rb
 revert b
 intro pb
 refine v_call (μ1:=[(rb,sgO (.slice A D.length c) 0 0 (.slice none 0 0))]) rfl (begin_s hC rb hs hl) (PickA.perm (by repeat (first|exact PickA.here _|apply PickA.cons))) rfl ?_
 rintro _ G1 _ hle1 ⟨a0,f,n,is,ha0,rfl,rfl,hbeg⟩
 have hbeg':is=true→∃ hd,nextF D=some (hd,D.drop a0)∧f=(headF D.length hd).1∧n=(headF D.length hd).2.1∧(headF D.length hd).2.2=true∧((headF D.length hd).1=1∨(headF D.length hd).1=2):=fun his=>by
  obtain ⟨-,h⟩|⟨hd,t,hn,h1,h2,h3,h4⟩:=hbeg
  ·rw [his] at h;cases h
  ·obtain ⟨h5,-,-⟩:=next_drop (D:=D) (a:=0) hw (by rw [List.drop_zero];exact hn)
   rw [← h1] at h5
   rw [his] at h4
   have:=of_decide_eq_true h4.symm
   exact ⟨hd,by rw [← h5];exact hn,h2,h3,this.1,this.2⟩
 have hno:is=false→readF decF D=none:=fun his=>by
  obtain ⟨hn,-⟩|⟨hd,t,hn,h1,h2,h3,h4⟩:=hbeg
  ·exact readF_none decF hn
  ·rw [his] at h4
   have:=of_decide_eq_false h4.symm
   rw [readF_some decF hn,if_neg fun h=>this ⟨h.1,h.2.1⟩]
 repeat' (first|apply v_seq|apply v_region|apply v_nil|apply v_block|apply v_pure;(case hop=>first|apply p_move<;>rfl|apply p_assign<;>rfl|apply p_extract0<;>rfl|apply p_extract1<;>rfl|apply p_makeFunc<;>rfl|fail);(case hd=>rfl)|apply v_alloc;(case hz|hd=>rfl);intro b|apply v_store;(case hp|hx|hc|hsz|h1=>rfl);(case hb=>repeat exact mhd _);(case hfit=>exact nle rfl);(case hov=>((repeat (first|with_reducible exact ov_nil|apply ov_cons));done));(case hu=>repeat (exact Upd.here _ _))|fail)
 revert b
 intro ib
 refine v_perm (ν:=([(ib,.cells #[.bool is] 4 (0,0)),(pb,.cells #[.pointer (some ⟨rb,0,none⟩)] 104 (0,0))]++(rb,sgO (.slice A D.length c) (a0:Nat) f (.slice none 0 0))::[])++[(cb,.cells (ctL 0 (hdL 0 0 0 (.slice none 0 0) (.slice none 0 0) (.slice none 0 0)) 0 0).toArray 50 (0,0))]) (by apply perm_of_count;intro p;simp only [List.append_eq,List.countP_append,List.countP_cons,List.countP_nil,Nat.zero_add,Nat.add_zero];try ac_rfl) ?_
 refine v_loopI (ι:=Nat) [7,6,5,4,2] (fun a us G' μ'=>GH.le G1 G'∧a≤D.length∧∃ (lv:Value) (xs:List Rc) (ν:OH),us=[.func (.func 62) #[] #[.pointer (some ⟨ib,0,none⟩),.pointer (some ⟨pb,0,none⟩)],.pointer (some ⟨ib,0,none⟩),.int .i64 n,.pointer (some ⟨pb,0,none⟩),.pointer (some ⟨cb,0,none⟩)]∧μ'=([(ib,.cells #[.bool is] 4 (0,0)),(pb,.cells #[.pointer (some ⟨rb,0,none⟩)] 104 (0,0))]++(rb,sgO (.slice A D.length c) (a:Nat) f lv)::ν)++[(cb,.cells (ctL 0 (hdL 0 0 0 (.slice none 0 0) (.slice none 0 0) (.slice none 0 0)) 0 0).toArray 50 (0,0))]∧GrowR G' lv xs ν∧xs.length≤a∧recsF (decF f) D.length (D.drop a0)=(xs++(recsF (decF f) D.length (D.drop a)).1,(recsF (decF f) D.length (D.drop a)).2)) (fun a=>D.length-a) rfl a0 ⟨GH.le_refl _,ha0,_,[],[],rfl,rfl,GrowR.none _,Nat.zero_le _,rfl⟩ ?_
 rintro a us G' μ' ⟨hle,ha,lv,xs,ν,rfl,rfl,hg,hxa,hrec⟩
 have hle':=GH.le_trans hle1 hle
 have q:=more_s rb ib pb a f is (next_s (hT.le hle') (hC.le hle') rb a f (hs.mono hle') hl ha (by omega) hg)
 obtain ⟨Ag,cg,rfl,-,-⟩:∃ A c,lv=.slice A xs.length c∧True∧True:=by
  obtain ⟨css,-,-,hgr⟩:=id hg
  obtain ⟨A,c,h,-⟩:=hgr.shape
  exact ⟨A,c,h,trivial,trivial⟩
 repeat' (first|apply v_seq|apply v_region|apply v_pure;(case hop=>(apply p_move<;>rfl));(case hd=>rfl)|fail)
 refine v_callC (first:=[]) (captured:=[.pointer (some ⟨ib,0,none⟩),.pointer (some ⟨pb,0,none⟩)]) (vs:=[]) rfl rfl q (List.Perm.refl _) rfl ?_
 rintro r G2 ν2 hle2 ⟨ν3,hp,hcase⟩
 refine v_perm (hp.append_right _) ?_
 obtain ⟨his,rfl,hG2,rfl⟩|⟨his,ok,a',lv',ν',xs',rfl,hp',hg',⟨rfl,rfl,rfl,hend⟩|⟨rfl,bd,t,x,hn,hd,rfl,rfl⟩⟩:=hcase
 ·have hnone:=hno his
  subst his
  repeat' (first|apply v_seq|apply v_region|apply v_nil|apply v_exit;(case hp=>rfl)|apply v_pass;(case hg|hn|hd=>rfl)|apply v_pure;(case hop=>first|apply p_move<;>rfl|apply p_assign<;>rfl|apply p_pickT<;>rfl|apply p_not<;>rfl|apply p_build;(case hz=>rfl);(case hv=>(simp only [List.map_cons,List.map_nil];repeat (with_reducible exact evs_nil)));(case hb=>(apply bldL;repeat (exact bld_nil)))|fail);(case hd=>rfl)|apply v_condT;(case hc=>rfl)|apply v_condF;(case hc=>rfl)|apply v_read;(case hop=>(apply r_load1;rfl;(apply Cell.own;(case h=>repeat exact mhd _);rfl)));(case hd=>rfl)|apply v_store;(case hp|hx|hc|hsz|h1=>rfl);(case hb=>repeat first|exact mhd _|apply mtl|apply List.mem_append_right);(case hfit=>exact nle rfl);(case hov=>((repeat (first|with_reducible exact ov_nil|apply ov_cons));done));(case hu=>repeat first|exact Upd.here _ _|apply Upd.there|apply Upd.app)|fail)
  refine v_retM [] (outsM_cell_tmp (vs:=ctL 0 (hdL 0 0 0 (.slice none 0 0) (.slice none 0 0) (.slice none 0 0)) 0 0) (e:=50) rfl rfl rfl (by repeat (first|exact mhd _|apply mtl|apply List.mem_append_right)) rfl) (by repeat (exact List.nil_sublist _)) ?_
  exact ⟨rfl,.inl ⟨hnone,rfl⟩⟩
 ·obtain ⟨hd,hnx,hf,hn,hh1,hh2⟩:=hbeg' his
  subst his
  have hstop:recsF (decF f) D.length (D.drop a')=([],D.drop a'):=by
   obtain h|⟨bd,t,h,h'⟩:=hend
   ·exact recsF_none (decF f) h
   ·exact recsF_bad (decF f) h h'
  rw [hstop,List.append_nil] at hrec
  have hR:readF decF D=if n≤(xs'.length:Int) then some (f,xs',a') else none:=by
   rw [readF_some decF hnx,← hf,hrec]
   simp only [hh1,true_and,← hn]
   have hl2:D.length-(D.drop a').length=a':=by rw [List.length_drop];omega
   rw [hl2]
   by_cases h:n≤(xs'.length:Int)
   ·rw [if_pos h,if_pos ⟨by rw [hf];exact hh2,h⟩]
   ·rw [if_neg h,if_neg fun hh=>h hh.2]
  refine v_perm ((hp'.append_left _).append_right _) ?_
  obtain ⟨Ag,cg,rfl,-,-⟩:∃ A c,lv'=.slice A xs'.length c∧True∧True:=by
   obtain ⟨css,-,-,hgr⟩:=id hg'
   obtain ⟨A,c,h,-⟩:=hgr.shape
   exact ⟨A,c,h,trivial,trivial⟩
  repeat' (first|apply v_seq|apply v_region|apply v_nil|apply v_skip|apply v_exit;(case hp=>rfl)|apply v_take;(case hg=>rfl)|apply v_pure;(case hop=>first|apply p_move<;>rfl|apply p_lt<;>rfl|apply p_assign<;>rfl|apply p_pickF<;>rfl|apply p_not<;>rfl|apply p_lenSlice<;>rfl|apply p_fieldAddrB<;>rfl|apply p_nilCheck<;>rfl|apply p_build;(case hz=>rfl);(case hv=>(simp only [List.map_cons,List.map_nil];repeat (with_reducible exact evs_nil)));(case hb=>(apply bldL;repeat (exact bld_nil)))|fail);(case hd=>rfl)|apply v_condF;(case hc=>rfl)|apply v_cond;(case hc=>rfl);all_goals (intro h;(try simp only [reduceCtorEq,zzz] at h))|apply v_read;(case hop=>(apply r_load1;rfl;(apply Cell.own;(case h=>repeat first|exact mhd _|apply mtl);rfl)));(case hd=>rfl)|apply v_store;(case hp|hx|hc|hsz|h1=>rfl);(case hb=>repeat first|exact mhd _|apply mtl|apply List.mem_append_right);(case hfit=>exact nle rfl);(case hov=>((repeat (first|with_reducible exact ov_nil|apply ov_cons));done));(case hu=>repeat first|exact Upd.here _ _|apply Upd.there|apply Upd.app)|fail)
  ·refine v_retM [] (outsM_cell_tmp (vs:=ctL 0 (hdL 0 0 0 (.slice none 0 0) (.slice none 0 0) (.slice none 0 0)) 0 0) (e:=50) rfl rfl rfl (by repeat (first|exact mhd _|apply mtl|apply List.mem_append_right)) rfl) (by repeat (exact List.nil_sublist _)) ?_
   exact ⟨rfl,.inl ⟨by rw [hR,if_neg (by omega)],rfl⟩⟩
  ·have hR':readF decF D=some (f,xs',a'):=by rw [hR,if_pos (by omega)]
   have h200:=hfew _ _ _ hR'
   refine v_frz ν' (by repeat (first|exact PickA.here _|apply PickA.cons)) ?_
   intro G3 hle3 hG3
   have hrs:=hg'.rs hle3 hG3
   have qo:=of_s (hT.le (GH.le_trans (GH.le_trans hle' hle2) hle3)) hrs h200
   refine d_start [(pb,.cells #[.pointer (some ⟨rb,0,none⟩)] 104 (0,0))] (by kernel_rfl) (by kernel_rfl) (by kernel_rfl) (by intro e he;(simp at he;simp [he];done)) ?_
   all_goals (apply dtk 0;(case hi=>rfl);(case hop=>first|apply r_loadNo;(case hx=>rfl);(case h=>repeat fail);(case hd=>repeat fail);(case hn=>rfl)|apply r_load1;rfl;(apply Cell.own;(case h=>repeat exact mhd _);rfl)|apply r_loadN;rfl;(apply CellsAt.own;(case h=>repeat fail));rfl);(case hq=>kernel_rfl);apply dtk 1;(case hi=>rfl);(case hop=>first|apply r_loadNo;(case hx=>rfl);(case h=>repeat fail);(case hd=>repeat fail);(case hn=>rfl)|apply r_load1;rfl;(apply Cell.own;(case h=>repeat exact mhd _);rfl)|apply r_loadN;rfl;(apply CellsAt.own;(case h=>repeat fail));rfl);(case hq=>kernel_rfl))
   all_goals (apply dtk 2;(case hi=>rfl);(case hop=>first|apply r_loadNo;(case hx=>rfl);(case h=>repeat fail);(case hd=>repeat fail);(case hn=>rfl)|apply r_load1;rfl;(apply Cell.own;(case h=>repeat exact mhd _);rfl)|apply r_loadN;rfl;(apply CellsAt.own;(case h=>repeat fail));rfl);(case hq=>kernel_rfl);apply dtk 3;(case hi=>rfl);(case hop=>first|apply r_loadNo;(case hx=>rfl);(case h=>repeat fail);(case hd=>repeat fail);(case hn=>rfl)|apply r_load1;rfl;(apply Cell.own;(case h=>repeat exact mhd _);rfl)|apply r_loadN;rfl;(apply CellsAt.own;(case h=>repeat fail));rfl);(case hq=>kernel_rfl))
   all_goals (apply dtn 4;(case hi|hx=>rfl);(case hq=>kernel_rfl);apply dtk 5;(case hi=>rfl);(case hop=>(apply prd;apply p_fieldAddrB<;>rfl));(case hq=>kernel_rfl))
   all_goals (apply dtk 8;(case hi=>rfl);(case hop=>first|apply r_loadNo;(case hx=>rfl);(case h=>repeat fail);(case hd=>repeat fail);(case hn=>rfl)|apply r_load1;rfl;(apply Cell.own;(case h=>repeat exact mhd _);rfl)|apply r_loadN;rfl;(apply CellsAt.own;(case h=>repeat fail));rfl);(case hq=>kernel_rfl);apply dtn 9;(case hi|hx=>rfl);(case hq=>kernel_rfl))
   all_goals (apply dtk 10;(case hi=>rfl);(case hop=>(apply prd;apply p_fieldAddrB<;>rfl));(case hq=>kernel_rfl);apply dtk 13;(case hi=>rfl);(case hop=>first|apply r_loadNo;(case hx=>rfl);(case h=>repeat fail);(case hd=>repeat fail);(case hn=>rfl)|apply r_load1;rfl;(apply Cell.own;(case h=>repeat exact mhd _);rfl)|apply r_loadN;rfl;(apply CellsAt.own;(case h=>repeat fail));rfl);(case hq=>kernel_rfl))
   all_goals (apply dtn 14;(case hi|hx=>rfl);(case hq=>kernel_rfl);apply dtk 15;(case hi=>rfl);(case hop=>(apply prd;apply p_fieldAddrB<;>rfl));(case hq=>kernel_rfl))
   focus
    refine d_fork3 6 11 16 (by kernel_rfl) ?_ ?_ ?_
    rotate_right
    focus
     (apply x_exec 16;(case hi=>rfl);(case hop=>exact ReadOp.move (r_load1 rfl (Cell.own (by repeat (first|exact mhd _|apply mtl)) rfl)));(case hd=>rfl);rintro _ G0 _ ⟨rfl,hG0,rfl⟩;subst G0;refine ⟨(by intro e he;simp at he;simp [he]),?_⟩)
     focus
      refine d_fork 6 11 (by kernel_rfl) ?_ ?_
      rotate_right
      focus
       (apply x_exec 11;(case hi=>rfl);(case hop=>exact ReadOp.move (r_load1 rfl (Cell.own (by repeat (first|exact mhd _|apply mtl)) rfl)));(case hd=>rfl);rintro _ G0 _ ⟨rfl,hG0,rfl⟩;subst G0;refine ⟨(by intro e he;simp at he;simp [he]),?_⟩)
       all_goals (apply dtk 12;(case hi=>rfl);(case hop=>(apply prd;apply p_lenSlice<;>rfl));(case hq=>kernel_rfl))
       all_goals (apply d_keep 6 (hop:=ReadOp.move ?hop);(case hi=>rfl);(case hr=>kernel_rfl);(case hop=>(apply r_load1;rfl;(apply Cell.own;(case h=>repeat first|exact mhd _|apply mtl);rfl)));(case hd=>rfl))
       all_goals ((apply d_call 7 (hs:=qo) (μ1:=[]);(case hi=>rfl);(case hr=>kernel_rfl);(case ha=>rfl);(case hp=>exact List.Perm.refl _);(case hd=>rfl);(case hν'=>intro e he;simp at he;simp [he]);rintro _ G4 _ hle4 ⟨rfl,L,rfl,iv,av,cv,rfl,hi,hac,hch⟩;obtain ⟨B0,d0,rfl,-⟩:=id hi.openInt;obtain ⟨B1,d1,rfl,-⟩:=id hac.open;obtain ⟨B2,d2,rfl,-⟩:=id hch.open))
       all_goals (apply dtn 17;(case hi|hx=>rfl);(case hq=>kernel_rfl);apply dtk 18;(case hi=>rfl);(case hop=>(apply prd;apply p_fieldAddrB<;>rfl));(case hq=>kernel_rfl))
       all_goals (apply dtk 19;(case hi=>rfl);(case hop=>(apply prd;apply p_fieldAddrB<;>rfl));(case hq=>kernel_rfl))
       all_goals (apply d_store 20;(case hi=>rfl);(case hr=>kernel_rfl);(case hL=>infer_instance);(case hp|hx|hc|hsz|h1=>rfl);(case hb=>repeat first|exact mhd _|apply mtl);(case hfit=>exact nle rfl);(case hov=>((repeat (first|with_reducible exact ov_nil|apply ov_cons));done));(case hu=>repeat first|exact Upd.here _ _|apply Upd.there);(case hν'=>intro e he;simp at he;simp [he]))
       all_goals (apply dtn 21;(case hi|hx=>rfl);(case hq=>kernel_rfl);apply dtk 22;(case hi=>rfl);(case hop=>(apply prd;apply p_fieldAddrB<;>rfl));(case hq=>kernel_rfl))
       all_goals (apply dtk 23;(case hi=>rfl);(case hop=>(apply prd;apply p_fieldAddrB<;>rfl));(case hq=>kernel_rfl))
       all_goals (apply d_store 24;(case hi=>rfl);(case hr=>kernel_rfl);(case hL=>infer_instance);(case hp|hx|hc|hsz|h1=>rfl);(case hb=>repeat first|exact mhd _|apply mtl);(case hfit=>exact nle rfl);(case hov=>((repeat (first|with_reducible exact ov_nil|apply ov_cons));done));(case hu=>repeat first|exact Upd.here _ _|apply Upd.there);(case hν'=>intro e he;simp at he;simp [he]))
       all_goals (apply dtn 25;(case hi|hx=>rfl);(case hq=>kernel_rfl);apply dtk 26;(case hi=>rfl);(case hop=>(apply prd;apply p_fieldAddrB<;>rfl));(case hq=>kernel_rfl))
       all_goals (apply dtk 27;(case hi=>rfl);(case hop=>(apply prd;apply p_fieldAddrB<;>rfl));(case hq=>kernel_rfl))
       all_goals (apply d_store 28;(case hi=>rfl);(case hr=>kernel_rfl);(case hL=>infer_instance);(case hp|hx|hc|hsz|h1=>rfl);(case hb=>repeat first|exact mhd _|apply mtl);(case hfit=>exact nle rfl);(case hov=>((repeat (first|with_reducible exact ov_nil|apply ov_cons));done));(case hu=>repeat first|exact Upd.here _ _|apply Upd.there);(case hν'=>intro e he;simp at he;simp [he]))
       all_goals (apply d_done;(case hr=>kernel_rfl))
      rotate_right
      focus
       (apply x_exec 6;(case hi=>rfl);(case hop=>exact ReadOp.move (r_load1 rfl (Cell.own (by repeat (first|exact mhd _|apply mtl)) rfl)));(case hd=>rfl);rintro _ G0 _ ⟨rfl,hG0,rfl⟩;subst G0;refine ⟨(by intro e he;simp at he;simp [he]),?_⟩)
       focus
        refine d_fork 7 11 (by kernel_rfl) ?_ ?_
        rotate_right
        focus
         (apply x_exec 11;(case hi=>rfl);(case hop=>exact ReadOp.move (r_load1 rfl (Cell.own (by repeat (first|exact mhd _|apply mtl)) rfl)));(case hd=>rfl);rintro _ G0 _ ⟨rfl,hG0,rfl⟩;subst G0;refine ⟨(by intro e he;simp at he;simp [he]),?_⟩)
         all_goals (apply dtk 12;(case hi=>rfl);(case hop=>(apply prd;apply p_lenSlice<;>rfl));(case hq=>kernel_rfl))
         all_goals ((apply d_call 7 (hs:=qo) (μ1:=[]);(case hi=>rfl);(case hr=>kernel_rfl);(case ha=>rfl);(case hp=>exact List.Perm.refl _);(case hd=>rfl);(case hν'=>intro e he;simp at he;simp [he]);rintro _ G4 _ hle4 ⟨rfl,L,rfl,iv,av,cv,rfl,hi,hac,hch⟩;obtain ⟨B0,d0,rfl,-⟩:=id hi.openInt;obtain ⟨B1,d1,rfl,-⟩:=id hac.open;obtain ⟨B2,d2,rfl,-⟩:=id hch.open))
         all_goals (apply dtn 17;(case hi|hx=>rfl);(case hq=>kernel_rfl);apply dtk 18;(case hi=>rfl);(case hop=>(apply prd;apply p_fieldAddrB<;>rfl));(case hq=>kernel_rfl))
         all_goals (apply dtk 19;(case hi=>rfl);(case hop=>(apply prd;apply p_fieldAddrB<;>rfl));(case hq=>kernel_rfl))
         all_goals (apply d_store 20;(case hi=>rfl);(case hr=>kernel_rfl);(case hL=>infer_instance);(case hp|hx|hc|hsz|h1=>rfl);(case hb=>repeat first|exact mhd _|apply mtl);(case hfit=>exact nle rfl);(case hov=>((repeat (first|with_reducible exact ov_nil|apply ov_cons));done));(case hu=>repeat first|exact Upd.here _ _|apply Upd.there);(case hν'=>intro e he;simp at he;simp [he]))
         all_goals (apply dtn 21;(case hi|hx=>rfl);(case hq=>kernel_rfl);apply dtk 22;(case hi=>rfl);(case hop=>(apply prd;apply p_fieldAddrB<;>rfl));(case hq=>kernel_rfl))
         all_goals (apply dtk 23;(case hi=>rfl);(case hop=>(apply prd;apply p_fieldAddrB<;>rfl));(case hq=>kernel_rfl))
         all_goals (apply d_store 24;(case hi=>rfl);(case hr=>kernel_rfl);(case hL=>infer_instance);(case hp|hx|hc|hsz|h1=>rfl);(case hb=>repeat first|exact mhd _|apply mtl);(case hfit=>exact nle rfl);(case hov=>((repeat (first|with_reducible exact ov_nil|apply ov_cons));done));(case hu=>repeat first|exact Upd.here _ _|apply Upd.there);(case hν'=>intro e he;simp at he;simp [he]))
         all_goals (apply dtn 25;(case hi|hx=>rfl);(case hq=>kernel_rfl);apply dtk 26;(case hi=>rfl);(case hop=>(apply prd;apply p_fieldAddrB<;>rfl));(case hq=>kernel_rfl))
         all_goals (apply dtk 27;(case hi=>rfl);(case hop=>(apply prd;apply p_fieldAddrB<;>rfl));(case hq=>kernel_rfl))
         all_goals (apply d_store 28;(case hi=>rfl);(case hr=>kernel_rfl);(case hL=>infer_instance);(case hp|hx|hc|hsz|h1=>rfl);(case hb=>repeat first|exact mhd _|apply mtl);(case hfit=>exact nle rfl);(case hov=>((repeat (first|with_reducible exact ov_nil|apply ov_cons));done));(case hu=>repeat first|exact Upd.here _ _|apply Upd.there);(case hν'=>intro e he;simp at he;simp [he]))
         all_goals (apply d_done;(case hr=>kernel_rfl))
        rotate_right
        focus
         (apply x_call 7 (hs:=qo) (μ1:=[]);(case hi|ha=>rfl);(case hp=>exact List.Perm.refl _);(case hd=>rfl);(case hν'=>intro e he;simp at he;simp [he]);rintro _ G4 _ hle4 ⟨rfl,L,rfl,iv,av,cv,rfl,hi,hac,hch⟩;obtain ⟨B0,d0,rfl,-⟩:=id hi.openInt;obtain ⟨B1,d1,rfl,-⟩:=id hac.open;obtain ⟨B2,d2,rfl,-⟩:=id hch.open)
         all_goals (apply d_keep 11 (hop:=ReadOp.move ?hop);(case hi=>rfl);(case hr=>kernel_rfl);(case hop=>(apply r_load1;rfl;(apply Cell.own;(case h=>repeat first|exact mhd _|apply mtl);rfl)));(case hd=>rfl))
         all_goals (apply dtk 12;(case hi=>rfl);(case hop=>(apply prd;apply p_lenSlice<;>rfl));(case hq=>kernel_rfl);apply dtn 17;(case hi|hx=>rfl);(case hq=>kernel_rfl))
         all_goals (apply dtk 18;(case hi=>rfl);(case hop=>(apply prd;apply p_fieldAddrB<;>rfl));(case hq=>kernel_rfl);apply dtk 19;(case hi=>rfl);(case hop=>(apply prd;apply p_fieldAddrB<;>rfl));(case hq=>kernel_rfl))
         all_goals (apply d_store 20;(case hi=>rfl);(case hr=>kernel_rfl);(case hL=>infer_instance);(case hp|hx|hc|hsz|h1=>rfl);(case hb=>repeat first|exact mhd _|apply mtl);(case hfit=>exact nle rfl);(case hov=>((repeat (first|with_reducible exact ov_nil|apply ov_cons));done));(case hu=>repeat first|exact Upd.here _ _|apply Upd.there);(case hν'=>intro e he;simp at he;simp [he]))
         all_goals (apply dtn 21;(case hi|hx=>rfl);(case hq=>kernel_rfl);apply dtk 22;(case hi=>rfl);(case hop=>(apply prd;apply p_fieldAddrB<;>rfl));(case hq=>kernel_rfl))
         all_goals (apply dtk 23;(case hi=>rfl);(case hop=>(apply prd;apply p_fieldAddrB<;>rfl));(case hq=>kernel_rfl))
         all_goals (apply d_store 24;(case hi=>rfl);(case hr=>kernel_rfl);(case hL=>infer_instance);(case hp|hx|hc|hsz|h1=>rfl);(case hb=>repeat first|exact mhd _|apply mtl);(case hfit=>exact nle rfl);(case hov=>((repeat (first|with_reducible exact ov_nil|apply ov_cons));done));(case hu=>repeat first|exact Upd.here _ _|apply Upd.there);(case hν'=>intro e he;simp at he;simp [he]))
         all_goals (apply dtn 25;(case hi|hx=>rfl);(case hq=>kernel_rfl);apply dtk 26;(case hi=>rfl);(case hop=>(apply prd;apply p_fieldAddrB<;>rfl));(case hq=>kernel_rfl))
         all_goals (apply dtk 27;(case hi=>rfl);(case hop=>(apply prd;apply p_fieldAddrB<;>rfl));(case hq=>kernel_rfl))
         all_goals (apply d_store 28;(case hi=>rfl);(case hr=>kernel_rfl);(case hL=>infer_instance);(case hp|hx|hc|hsz|h1=>rfl);(case hb=>repeat first|exact mhd _|apply mtl);(case hfit=>exact nle rfl);(case hov=>((repeat (first|with_reducible exact ov_nil|apply ov_cons));done));(case hu=>repeat first|exact Upd.here _ _|apply Upd.there);(case hν'=>intro e he;simp at he;simp [he]))
         all_goals (apply d_done;(case hr=>kernel_rfl))
    rotate_right
    focus
     (apply x_exec 11;(case hi=>rfl);(case hop=>exact ReadOp.move (r_load1 rfl (Cell.own (by repeat (first|exact mhd _|apply mtl)) rfl)));(case hd=>rfl);rintro _ G0 _ ⟨rfl,hG0,rfl⟩;subst G0;refine ⟨(by intro e he;simp at he;simp [he]),?_⟩)
     all_goals (apply dtk 12;(case hi=>rfl);(case hop=>(apply prd;apply p_lenSlice<;>rfl));(case hq=>kernel_rfl))
     focus
      refine d_fork 6 16 (by kernel_rfl) ?_ ?_
      rotate_right
      focus
       (apply x_exec 16;(case hi=>rfl);(case hop=>exact ReadOp.move (r_load1 rfl (Cell.own (by repeat (first|exact mhd _|apply mtl)) rfl)));(case hd=>rfl);rintro _ G0 _ ⟨rfl,hG0,rfl⟩;subst G0;refine ⟨(by intro e he;simp at he;simp [he]),?_⟩)
       all_goals (apply d_keep 6 (hop:=ReadOp.move ?hop);(case hi=>rfl);(case hr=>kernel_rfl);(case hop=>(apply r_load1;rfl;(apply Cell.own;(case h=>repeat first|exact mhd _|apply mtl);rfl)));(case hd=>rfl))
       all_goals ((apply d_call 7 (hs:=qo) (μ1:=[]);(case hi=>rfl);(case hr=>kernel_rfl);(case ha=>rfl);(case hp=>exact List.Perm.refl _);(case hd=>rfl);(case hν'=>intro e he;simp at he;simp [he]);rintro _ G4 _ hle4 ⟨rfl,L,rfl,iv,av,cv,rfl,hi,hac,hch⟩;obtain ⟨B0,d0,rfl,-⟩:=id hi.openInt;obtain ⟨B1,d1,rfl,-⟩:=id hac.open;obtain ⟨B2,d2,rfl,-⟩:=id hch.open))
       all_goals (apply dtn 17;(case hi|hx=>rfl);(case hq=>kernel_rfl);apply dtk 18;(case hi=>rfl);(case hop=>(apply prd;apply p_fieldAddrB<;>rfl));(case hq=>kernel_rfl))
       all_goals (apply dtk 19;(case hi=>rfl);(case hop=>(apply prd;apply p_fieldAddrB<;>rfl));(case hq=>kernel_rfl))
       all_goals (apply d_store 20;(case hi=>rfl);(case hr=>kernel_rfl);(case hL=>infer_instance);(case hp|hx|hc|hsz|h1=>rfl);(case hb=>repeat first|exact mhd _|apply mtl);(case hfit=>exact nle rfl);(case hov=>((repeat (first|with_reducible exact ov_nil|apply ov_cons));done));(case hu=>repeat first|exact Upd.here _ _|apply Upd.there);(case hν'=>intro e he;simp at he;simp [he]))
       all_goals (apply dtn 21;(case hi|hx=>rfl);(case hq=>kernel_rfl);apply dtk 22;(case hi=>rfl);(case hop=>(apply prd;apply p_fieldAddrB<;>rfl));(case hq=>kernel_rfl))
       all_goals (apply dtk 23;(case hi=>rfl);(case hop=>(apply prd;apply p_fieldAddrB<;>rfl));(case hq=>kernel_rfl))
       all_goals (apply d_store 24;(case hi=>rfl);(case hr=>kernel_rfl);(case hL=>infer_instance);(case hp|hx|hc|hsz|h1=>rfl);(case hb=>repeat first|exact mhd _|apply mtl);(case hfit=>exact nle rfl);(case hov=>((repeat (first|with_reducible exact ov_nil|apply ov_cons));done));(case hu=>repeat first|exact Upd.here _ _|apply Upd.there);(case hν'=>intro e he;simp at he;simp [he]))
       all_goals (apply dtn 25;(case hi|hx=>rfl);(case hq=>kernel_rfl);apply dtk 26;(case hi=>rfl);(case hop=>(apply prd;apply p_fieldAddrB<;>rfl));(case hq=>kernel_rfl))
       all_goals (apply dtk 27;(case hi=>rfl);(case hop=>(apply prd;apply p_fieldAddrB<;>rfl));(case hq=>kernel_rfl))
       all_goals (apply d_store 28;(case hi=>rfl);(case hr=>kernel_rfl);(case hL=>infer_instance);(case hp|hx|hc|hsz|h1=>rfl);(case hb=>repeat first|exact mhd _|apply mtl);(case hfit=>exact nle rfl);(case hov=>((repeat (first|with_reducible exact ov_nil|apply ov_cons));done));(case hu=>repeat first|exact Upd.here _ _|apply Upd.there);(case hν'=>intro e he;simp at he;simp [he]))
       all_goals (apply d_done;(case hr=>kernel_rfl))
      rotate_right
      focus
       (apply x_exec 6;(case hi=>rfl);(case hop=>exact ReadOp.move (r_load1 rfl (Cell.own (by repeat (first|exact mhd _|apply mtl)) rfl)));(case hd=>rfl);rintro _ G0 _ ⟨rfl,hG0,rfl⟩;subst G0;refine ⟨(by intro e he;simp at he;simp [he]),?_⟩)
       focus
        refine d_fork 7 16 (by kernel_rfl) ?_ ?_
        rotate_right
        focus
         (apply x_exec 16;(case hi=>rfl);(case hop=>exact ReadOp.move (r_load1 rfl (Cell.own (by repeat (first|exact mhd _|apply mtl)) rfl)));(case hd=>rfl);rintro _ G0 _ ⟨rfl,hG0,rfl⟩;subst G0;refine ⟨(by intro e he;simp at he;simp [he]),?_⟩)
         all_goals ((apply d_call 7 (hs:=qo) (μ1:=[]);(case hi=>rfl);(case hr=>kernel_rfl);(case ha=>rfl);(case hp=>exact List.Perm.refl _);(case hd=>rfl);(case hν'=>intro e he;simp at he;simp [he]);rintro _ G4 _ hle4 ⟨rfl,L,rfl,iv,av,cv,rfl,hi,hac,hch⟩;obtain ⟨B0,d0,rfl,-⟩:=id hi.openInt;obtain ⟨B1,d1,rfl,-⟩:=id hac.open;obtain ⟨B2,d2,rfl,-⟩:=id hch.open))
         all_goals (apply dtn 17;(case hi|hx=>rfl);(case hq=>kernel_rfl);apply dtk 18;(case hi=>rfl);(case hop=>(apply prd;apply p_fieldAddrB<;>rfl));(case hq=>kernel_rfl))
         all_goals (apply dtk 19;(case hi=>rfl);(case hop=>(apply prd;apply p_fieldAddrB<;>rfl));(case hq=>kernel_rfl))
         all_goals (apply d_store 20;(case hi=>rfl);(case hr=>kernel_rfl);(case hL=>infer_instance);(case hp|hx|hc|hsz|h1=>rfl);(case hb=>repeat first|exact mhd _|apply mtl);(case hfit=>exact nle rfl);(case hov=>((repeat (first|with_reducible exact ov_nil|apply ov_cons));done));(case hu=>repeat first|exact Upd.here _ _|apply Upd.there);(case hν'=>intro e he;simp at he;simp [he]))
         all_goals (apply dtn 21;(case hi|hx=>rfl);(case hq=>kernel_rfl);apply dtk 22;(case hi=>rfl);(case hop=>(apply prd;apply p_fieldAddrB<;>rfl));(case hq=>kernel_rfl))
         all_goals (apply dtk 23;(case hi=>rfl);(case hop=>(apply prd;apply p_fieldAddrB<;>rfl));(case hq=>kernel_rfl))
         all_goals (apply d_store 24;(case hi=>rfl);(case hr=>kernel_rfl);(case hL=>infer_instance);(case hp|hx|hc|hsz|h1=>rfl);(case hb=>repeat first|exact mhd _|apply mtl);(case hfit=>exact nle rfl);(case hov=>((repeat (first|with_reducible exact ov_nil|apply ov_cons));done));(case hu=>repeat first|exact Upd.here _ _|apply Upd.there);(case hν'=>intro e he;simp at he;simp [he]))
         all_goals (apply dtn 25;(case hi|hx=>rfl);(case hq=>kernel_rfl);apply dtk 26;(case hi=>rfl);(case hop=>(apply prd;apply p_fieldAddrB<;>rfl));(case hq=>kernel_rfl))
         all_goals (apply dtk 27;(case hi=>rfl);(case hop=>(apply prd;apply p_fieldAddrB<;>rfl));(case hq=>kernel_rfl))
         all_goals (apply d_store 28;(case hi=>rfl);(case hr=>kernel_rfl);(case hL=>infer_instance);(case hp|hx|hc|hsz|h1=>rfl);(case hb=>repeat first|exact mhd _|apply mtl);(case hfit=>exact nle rfl);(case hov=>((repeat (first|with_reducible exact ov_nil|apply ov_cons));done));(case hu=>repeat first|exact Upd.here _ _|apply Upd.there);(case hν'=>intro e he;simp at he;simp [he]))
         all_goals (apply d_done;(case hr=>kernel_rfl))
        rotate_right
        focus
         (apply x_call 7 (hs:=qo) (μ1:=[]);(case hi|ha=>rfl);(case hp=>exact List.Perm.refl _);(case hd=>rfl);(case hν'=>intro e he;simp at he;simp [he]);rintro _ G4 _ hle4 ⟨rfl,L,rfl,iv,av,cv,rfl,hi,hac,hch⟩;obtain ⟨B0,d0,rfl,-⟩:=id hi.openInt;obtain ⟨B1,d1,rfl,-⟩:=id hac.open;obtain ⟨B2,d2,rfl,-⟩:=id hch.open)
         all_goals (apply d_keep 16 (hop:=ReadOp.move ?hop);(case hi=>rfl);(case hr=>kernel_rfl);(case hop=>(apply r_load1;rfl;(apply Cell.own;(case h=>repeat first|exact mhd _|apply mtl);rfl)));(case hd=>rfl))
         all_goals (apply dtn 17;(case hi|hx=>rfl);(case hq=>kernel_rfl);apply dtk 18;(case hi=>rfl);(case hop=>(apply prd;apply p_fieldAddrB<;>rfl));(case hq=>kernel_rfl))
         all_goals (apply dtk 19;(case hi=>rfl);(case hop=>(apply prd;apply p_fieldAddrB<;>rfl));(case hq=>kernel_rfl))
         all_goals (apply d_store 20;(case hi=>rfl);(case hr=>kernel_rfl);(case hL=>infer_instance);(case hp|hx|hc|hsz|h1=>rfl);(case hb=>repeat first|exact mhd _|apply mtl);(case hfit=>exact nle rfl);(case hov=>((repeat (first|with_reducible exact ov_nil|apply ov_cons));done));(case hu=>repeat first|exact Upd.here _ _|apply Upd.there);(case hν'=>intro e he;simp at he;simp [he]))
         all_goals (apply dtn 21;(case hi|hx=>rfl);(case hq=>kernel_rfl);apply dtk 22;(case hi=>rfl);(case hop=>(apply prd;apply p_fieldAddrB<;>rfl));(case hq=>kernel_rfl))
         all_goals (apply dtk 23;(case hi=>rfl);(case hop=>(apply prd;apply p_fieldAddrB<;>rfl));(case hq=>kernel_rfl))
         all_goals (apply d_store 24;(case hi=>rfl);(case hr=>kernel_rfl);(case hL=>infer_instance);(case hp|hx|hc|hsz|h1=>rfl);(case hb=>repeat first|exact mhd _|apply mtl);(case hfit=>exact nle rfl);(case hov=>((repeat (first|with_reducible exact ov_nil|apply ov_cons));done));(case hu=>repeat first|exact Upd.here _ _|apply Upd.there);(case hν'=>intro e he;simp at he;simp [he]))
         all_goals (apply dtn 25;(case hi|hx=>rfl);(case hq=>kernel_rfl);apply dtk 26;(case hi=>rfl);(case hop=>(apply prd;apply p_fieldAddrB<;>rfl));(case hq=>kernel_rfl))
         all_goals (apply dtk 27;(case hi=>rfl);(case hop=>(apply prd;apply p_fieldAddrB<;>rfl));(case hq=>kernel_rfl))
         all_goals (apply d_store 28;(case hi=>rfl);(case hr=>kernel_rfl);(case hL=>infer_instance);(case hp|hx|hc|hsz|h1=>rfl);(case hb=>repeat first|exact mhd _|apply mtl);(case hfit=>exact nle rfl);(case hov=>((repeat (first|with_reducible exact ov_nil|apply ov_cons));done));(case hu=>repeat first|exact Upd.here _ _|apply Upd.there);(case hν'=>intro e he;simp at he;simp [he]))
         all_goals (apply d_done;(case hr=>kernel_rfl))
    rotate_right
    focus
     (apply x_exec 6;(case hi=>rfl);(case hop=>exact ReadOp.move (r_load1 rfl (Cell.own (by repeat (first|exact mhd _|apply mtl)) rfl)));(case hd=>rfl);rintro _ G0 _ ⟨rfl,hG0,rfl⟩;subst G0;refine ⟨(by intro e he;simp at he;simp [he]),?_⟩)
     focus
      refine d_fork3 7 11 16 (by kernel_rfl) ?_ ?_ ?_
      rotate_right
      focus
       (apply x_exec 16;(case hi=>rfl);(case hop=>exact ReadOp.move (r_load1 rfl (Cell.own (by repeat (first|exact mhd _|apply mtl)) rfl)));(case hd=>rfl);rintro _ G0 _ ⟨rfl,hG0,rfl⟩;subst G0;refine ⟨(by intro e he;simp at he;simp [he]),?_⟩)
       focus
        refine d_fork 7 11 (by kernel_rfl) ?_ ?_
        rotate_right
        focus
         (apply x_exec 11;(case hi=>rfl);(case hop=>exact ReadOp.move (r_load1 rfl (Cell.own (by repeat (first|exact mhd _|apply mtl)) rfl)));(case hd=>rfl);rintro _ G0 _ ⟨rfl,hG0,rfl⟩;subst G0;refine ⟨(by intro e he;simp at he;simp [he]),?_⟩)
         all_goals (apply dtk 12;(case hi=>rfl);(case hop=>(apply prd;apply p_lenSlice<;>rfl));(case hq=>kernel_rfl))
         all_goals ((apply d_call 7 (hs:=qo) (μ1:=[]);(case hi=>rfl);(case hr=>kernel_rfl);(case ha=>rfl);(case hp=>exact List.Perm.refl _);(case hd=>rfl);(case hν'=>intro e he;simp at he;simp [he]);rintro _ G4 _ hle4 ⟨rfl,L,rfl,iv,av,cv,rfl,hi,hac,hch⟩;obtain ⟨B0,d0,rfl,-⟩:=id hi.openInt;obtain ⟨B1,d1,rfl,-⟩:=id hac.open;obtain ⟨B2,d2,rfl,-⟩:=id hch.open))
         all_goals (apply dtn 17;(case hi|hx=>rfl);(case hq=>kernel_rfl);apply dtk 18;(case hi=>rfl);(case hop=>(apply prd;apply p_fieldAddrB<;>rfl));(case hq=>kernel_rfl))
         all_goals (apply dtk 19;(case hi=>rfl);(case hop=>(apply prd;apply p_fieldAddrB<;>rfl));(case hq=>kernel_rfl))
         all_goals (apply d_store 20;(case hi=>rfl);(case hr=>kernel_rfl);(case hL=>infer_instance);(case hp|hx|hc|hsz|h1=>rfl);(case hb=>repeat first|exact mhd _|apply mtl);(case hfit=>exact nle rfl);(case hov=>((repeat (first|with_reducible exact ov_nil|apply ov_cons));done));(case hu=>repeat first|exact Upd.here _ _|apply Upd.there);(case hν'=>intro e he;simp at he;simp [he]))
         all_goals (apply dtn 21;(case hi|hx=>rfl);(case hq=>kernel_rfl);apply dtk 22;(case hi=>rfl);(case hop=>(apply prd;apply p_fieldAddrB<;>rfl));(case hq=>kernel_rfl))
         all_goals (apply dtk 23;(case hi=>rfl);(case hop=>(apply prd;apply p_fieldAddrB<;>rfl));(case hq=>kernel_rfl))
         all_goals (apply d_store 24;(case hi=>rfl);(case hr=>kernel_rfl);(case hL=>infer_instance);(case hp|hx|hc|hsz|h1=>rfl);(case hb=>repeat first|exact mhd _|apply mtl);(case hfit=>exact nle rfl);(case hov=>((repeat (first|with_reducible exact ov_nil|apply ov_cons));done));(case hu=>repeat first|exact Upd.here _ _|apply Upd.there);(case hν'=>intro e he;simp at he;simp [he]))
         all_goals (apply dtn 25;(case hi|hx=>rfl);(case hq=>kernel_rfl);apply dtk 26;(case hi=>rfl);(case hop=>(apply prd;apply p_fieldAddrB<;>rfl));(case hq=>kernel_rfl))
         all_goals (apply dtk 27;(case hi=>rfl);(case hop=>(apply prd;apply p_fieldAddrB<;>rfl));(case hq=>kernel_rfl))
         all_goals (apply d_store 28;(case hi=>rfl);(case hr=>kernel_rfl);(case hL=>infer_instance);(case hp|hx|hc|hsz|h1=>rfl);(case hb=>repeat first|exact mhd _|apply mtl);(case hfit=>exact nle rfl);(case hov=>((repeat (first|with_reducible exact ov_nil|apply ov_cons));done));(case hu=>repeat first|exact Upd.here _ _|apply Upd.there);(case hν'=>intro e he;simp at he;simp [he]))
         all_goals (apply d_done;(case hr=>kernel_rfl))
        rotate_right
        focus
         (apply x_call 7 (hs:=qo) (μ1:=[]);(case hi|ha=>rfl);(case hp=>exact List.Perm.refl _);(case hd=>rfl);(case hν'=>intro e he;simp at he;simp [he]);rintro _ G4 _ hle4 ⟨rfl,L,rfl,iv,av,cv,rfl,hi,hac,hch⟩;obtain ⟨B0,d0,rfl,-⟩:=id hi.openInt;obtain ⟨B1,d1,rfl,-⟩:=id hac.open;obtain ⟨B2,d2,rfl,-⟩:=id hch.open)
         all_goals (apply d_keep 11 (hop:=ReadOp.move ?hop);(case hi=>rfl);(case hr=>kernel_rfl);(case hop=>(apply r_load1;rfl;(apply Cell.own;(case h=>repeat first|exact mhd _|apply mtl);rfl)));(case hd=>rfl))
         all_goals (apply dtk 12;(case hi=>rfl);(case hop=>(apply prd;apply p_lenSlice<;>rfl));(case hq=>kernel_rfl);apply dtn 17;(case hi|hx=>rfl);(case hq=>kernel_rfl))
         all_goals (apply dtk 18;(case hi=>rfl);(case hop=>(apply prd;apply p_fieldAddrB<;>rfl));(case hq=>kernel_rfl);apply dtk 19;(case hi=>rfl);(case hop=>(apply prd;apply p_fieldAddrB<;>rfl));(case hq=>kernel_rfl))
         all_goals (apply d_store 20;(case hi=>rfl);(case hr=>kernel_rfl);(case hL=>infer_instance);(case hp|hx|hc|hsz|h1=>rfl);(case hb=>repeat first|exact mhd _|apply mtl);(case hfit=>exact nle rfl);(case hov=>((repeat (first|with_reducible exact ov_nil|apply ov_cons));done));(case hu=>repeat first|exact Upd.here _ _|apply Upd.there);(case hν'=>intro e he;simp at he;simp [he]))
         all_goals (apply dtn 21;(case hi|hx=>rfl);(case hq=>kernel_rfl);apply dtk 22;(case hi=>rfl);(case hop=>(apply prd;apply p_fieldAddrB<;>rfl));(case hq=>kernel_rfl))
         all_goals (apply dtk 23;(case hi=>rfl);(case hop=>(apply prd;apply p_fieldAddrB<;>rfl));(case hq=>kernel_rfl))
         all_goals (apply d_store 24;(case hi=>rfl);(case hr=>kernel_rfl);(case hL=>infer_instance);(case hp|hx|hc|hsz|h1=>rfl);(case hb=>repeat first|exact mhd _|apply mtl);(case hfit=>exact nle rfl);(case hov=>((repeat (first|with_reducible exact ov_nil|apply ov_cons));done));(case hu=>repeat first|exact Upd.here _ _|apply Upd.there);(case hν'=>intro e he;simp at he;simp [he]))
         all_goals (apply dtn 25;(case hi|hx=>rfl);(case hq=>kernel_rfl);apply dtk 26;(case hi=>rfl);(case hop=>(apply prd;apply p_fieldAddrB<;>rfl));(case hq=>kernel_rfl))
         all_goals (apply dtk 27;(case hi=>rfl);(case hop=>(apply prd;apply p_fieldAddrB<;>rfl));(case hq=>kernel_rfl))
         all_goals (apply d_store 28;(case hi=>rfl);(case hr=>kernel_rfl);(case hL=>infer_instance);(case hp|hx|hc|hsz|h1=>rfl);(case hb=>repeat first|exact mhd _|apply mtl);(case hfit=>exact nle rfl);(case hov=>((repeat (first|with_reducible exact ov_nil|apply ov_cons));done));(case hu=>repeat first|exact Upd.here _ _|apply Upd.there);(case hν'=>intro e he;simp at he;simp [he]))
         all_goals (apply d_done;(case hr=>kernel_rfl))
      rotate_right
      focus
       (apply x_exec 11;(case hi=>rfl);(case hop=>exact ReadOp.move (r_load1 rfl (Cell.own (by repeat (first|exact mhd _|apply mtl)) rfl)));(case hd=>rfl);rintro _ G0 _ ⟨rfl,hG0,rfl⟩;subst G0;refine ⟨(by intro e he;simp at he;simp [he]),?_⟩)
       all_goals (apply dtk 12;(case hi=>rfl);(case hop=>(apply prd;apply p_lenSlice<;>rfl));(case hq=>kernel_rfl))
       focus
        refine d_fork 7 16 (by kernel_rfl) ?_ ?_
        rotate_right
        focus
         (apply x_exec 16;(case hi=>rfl);(case hop=>exact ReadOp.move (r_load1 rfl (Cell.own (by repeat (first|exact mhd _|apply mtl)) rfl)));(case hd=>rfl);rintro _ G0 _ ⟨rfl,hG0,rfl⟩;subst G0;refine ⟨(by intro e he;simp at he;simp [he]),?_⟩)
         all_goals ((apply d_call 7 (hs:=qo) (μ1:=[]);(case hi=>rfl);(case hr=>kernel_rfl);(case ha=>rfl);(case hp=>exact List.Perm.refl _);(case hd=>rfl);(case hν'=>intro e he;simp at he;simp [he]);rintro _ G4 _ hle4 ⟨rfl,L,rfl,iv,av,cv,rfl,hi,hac,hch⟩;obtain ⟨B0,d0,rfl,-⟩:=id hi.openInt;obtain ⟨B1,d1,rfl,-⟩:=id hac.open;obtain ⟨B2,d2,rfl,-⟩:=id hch.open))
         all_goals (apply dtn 17;(case hi|hx=>rfl);(case hq=>kernel_rfl);apply dtk 18;(case hi=>rfl);(case hop=>(apply prd;apply p_fieldAddrB<;>rfl));(case hq=>kernel_rfl))
         all_goals (apply dtk 19;(case hi=>rfl);(case hop=>(apply prd;apply p_fieldAddrB<;>rfl));(case hq=>kernel_rfl))
         all_goals (apply d_store 20;(case hi=>rfl);(case hr=>kernel_rfl);(case hL=>infer_instance);(case hp|hx|hc|hsz|h1=>rfl);(case hb=>repeat first|exact mhd _|apply mtl);(case hfit=>exact nle rfl);(case hov=>((repeat (first|with_reducible exact ov_nil|apply ov_cons));done));(case hu=>repeat first|exact Upd.here _ _|apply Upd.there);(case hν'=>intro e he;simp at he;simp [he]))
         all_goals (apply dtn 21;(case hi|hx=>rfl);(case hq=>kernel_rfl);apply dtk 22;(case hi=>rfl);(case hop=>(apply prd;apply p_fieldAddrB<;>rfl));(case hq=>kernel_rfl))
         all_goals (apply dtk 23;(case hi=>rfl);(case hop=>(apply prd;apply p_fieldAddrB<;>rfl));(case hq=>kernel_rfl))
         all_goals (apply d_store 24;(case hi=>rfl);(case hr=>kernel_rfl);(case hL=>infer_instance);(case hp|hx|hc|hsz|h1=>rfl);(case hb=>repeat first|exact mhd _|apply mtl);(case hfit=>exact nle rfl);(case hov=>((repeat (first|with_reducible exact ov_nil|apply ov_cons));done));(case hu=>repeat first|exact Upd.here _ _|apply Upd.there);(case hν'=>intro e he;simp at he;simp [he]))
         all_goals (apply dtn 25;(case hi|hx=>rfl);(case hq=>kernel_rfl);apply dtk 26;(case hi=>rfl);(case hop=>(apply prd;apply p_fieldAddrB<;>rfl));(case hq=>kernel_rfl))
         all_goals (apply dtk 27;(case hi=>rfl);(case hop=>(apply prd;apply p_fieldAddrB<;>rfl));(case hq=>kernel_rfl))
         all_goals (apply d_store 28;(case hi=>rfl);(case hr=>kernel_rfl);(case hL=>infer_instance);(case hp|hx|hc|hsz|h1=>rfl);(case hb=>repeat first|exact mhd _|apply mtl);(case hfit=>exact nle rfl);(case hov=>((repeat (first|with_reducible exact ov_nil|apply ov_cons));done));(case hu=>repeat first|exact Upd.here _ _|apply Upd.there);(case hν'=>intro e he;simp at he;simp [he]))
         all_goals (apply d_done;(case hr=>kernel_rfl))
        rotate_right
        focus
         (apply x_call 7 (hs:=qo) (μ1:=[]);(case hi|ha=>rfl);(case hp=>exact List.Perm.refl _);(case hd=>rfl);(case hν'=>intro e he;simp at he;simp [he]);rintro _ G4 _ hle4 ⟨rfl,L,rfl,iv,av,cv,rfl,hi,hac,hch⟩;obtain ⟨B0,d0,rfl,-⟩:=id hi.openInt;obtain ⟨B1,d1,rfl,-⟩:=id hac.open;obtain ⟨B2,d2,rfl,-⟩:=id hch.open)
         all_goals (apply d_keep 16 (hop:=ReadOp.move ?hop);(case hi=>rfl);(case hr=>kernel_rfl);(case hop=>(apply r_load1;rfl;(apply Cell.own;(case h=>repeat first|exact mhd _|apply mtl);rfl)));(case hd=>rfl))
         all_goals (apply dtn 17;(case hi|hx=>rfl);(case hq=>kernel_rfl);apply dtk 18;(case hi=>rfl);(case hop=>(apply prd;apply p_fieldAddrB<;>rfl));(case hq=>kernel_rfl))
         all_goals (apply dtk 19;(case hi=>rfl);(case hop=>(apply prd;apply p_fieldAddrB<;>rfl));(case hq=>kernel_rfl))
         all_goals (apply d_store 20;(case hi=>rfl);(case hr=>kernel_rfl);(case hL=>infer_instance);(case hp|hx|hc|hsz|h1=>rfl);(case hb=>repeat first|exact mhd _|apply mtl);(case hfit=>exact nle rfl);(case hov=>((repeat (first|with_reducible exact ov_nil|apply ov_cons));done));(case hu=>repeat first|exact Upd.here _ _|apply Upd.there);(case hν'=>intro e he;simp at he;simp [he]))
         all_goals (apply dtn 21;(case hi|hx=>rfl);(case hq=>kernel_rfl);apply dtk 22;(case hi=>rfl);(case hop=>(apply prd;apply p_fieldAddrB<;>rfl));(case hq=>kernel_rfl))
         all_goals (apply dtk 23;(case hi=>rfl);(case hop=>(apply prd;apply p_fieldAddrB<;>rfl));(case hq=>kernel_rfl))
         all_goals (apply d_store 24;(case hi=>rfl);(case hr=>kernel_rfl);(case hL=>infer_instance);(case hp|hx|hc|hsz|h1=>rfl);(case hb=>repeat first|exact mhd _|apply mtl);(case hfit=>exact nle rfl);(case hov=>((repeat (first|with_reducible exact ov_nil|apply ov_cons));done));(case hu=>repeat first|exact Upd.here _ _|apply Upd.there);(case hν'=>intro e he;simp at he;simp [he]))
         all_goals (apply dtn 25;(case hi|hx=>rfl);(case hq=>kernel_rfl);apply dtk 26;(case hi=>rfl);(case hop=>(apply prd;apply p_fieldAddrB<;>rfl));(case hq=>kernel_rfl))
         all_goals (apply dtk 27;(case hi=>rfl);(case hop=>(apply prd;apply p_fieldAddrB<;>rfl));(case hq=>kernel_rfl))
         all_goals (apply d_store 28;(case hi=>rfl);(case hr=>kernel_rfl);(case hL=>infer_instance);(case hp|hx|hc|hsz|h1=>rfl);(case hb=>repeat first|exact mhd _|apply mtl);(case hfit=>exact nle rfl);(case hov=>((repeat (first|with_reducible exact ov_nil|apply ov_cons));done));(case hu=>repeat first|exact Upd.here _ _|apply Upd.there);(case hν'=>intro e he;simp at he;simp [he]))
         all_goals (apply d_done;(case hr=>kernel_rfl))
      rotate_right
      focus
       (apply x_call 7 (hs:=qo) (μ1:=[]);(case hi|ha=>rfl);(case hp=>exact List.Perm.refl _);(case hd=>rfl);(case hν'=>intro e he;simp at he;simp [he]);rintro _ G4 _ hle4 ⟨rfl,L,rfl,iv,av,cv,rfl,hi,hac,hch⟩;obtain ⟨B0,d0,rfl,-⟩:=id hi.openInt;obtain ⟨B1,d1,rfl,-⟩:=id hac.open;obtain ⟨B2,d2,rfl,-⟩:=id hch.open)
       focus
        refine d_fork 11 16 (by kernel_rfl) ?_ ?_
        rotate_right
        focus
         (apply x_exec 16;(case hi=>rfl);(case hop=>exact ReadOp.move (r_load1 rfl (Cell.own (by repeat (first|exact mhd _|apply mtl)) rfl)));(case hd=>rfl);rintro _ G0 _ ⟨rfl,hG0,rfl⟩;subst G0;refine ⟨(by intro e he;simp at he;simp [he]),?_⟩)
         all_goals (apply d_keep 11 (hop:=ReadOp.move ?hop);(case hi=>rfl);(case hr=>kernel_rfl);(case hop=>(apply r_load1;rfl;(apply Cell.own;(case h=>repeat first|exact mhd _|apply mtl);rfl)));(case hd=>rfl))
         all_goals (apply dtk 12;(case hi=>rfl);(case hop=>(apply prd;apply p_lenSlice<;>rfl));(case hq=>kernel_rfl);apply dtn 17;(case hi|hx=>rfl);(case hq=>kernel_rfl))
         all_goals (apply dtk 18;(case hi=>rfl);(case hop=>(apply prd;apply p_fieldAddrB<;>rfl));(case hq=>kernel_rfl);apply dtk 19;(case hi=>rfl);(case hop=>(apply prd;apply p_fieldAddrB<;>rfl));(case hq=>kernel_rfl))
         all_goals (apply d_store 20;(case hi=>rfl);(case hr=>kernel_rfl);(case hL=>infer_instance);(case hp|hx|hc|hsz|h1=>rfl);(case hb=>repeat first|exact mhd _|apply mtl);(case hfit=>exact nle rfl);(case hov=>((repeat (first|with_reducible exact ov_nil|apply ov_cons));done));(case hu=>repeat first|exact Upd.here _ _|apply Upd.there);(case hν'=>intro e he;simp at he;simp [he]))
         all_goals (apply dtn 21;(case hi|hx=>rfl);(case hq=>kernel_rfl);apply dtk 22;(case hi=>rfl);(case hop=>(apply prd;apply p_fieldAddrB<;>rfl));(case hq=>kernel_rfl))
         all_goals (apply dtk 23;(case hi=>rfl);(case hop=>(apply prd;apply p_fieldAddrB<;>rfl));(case hq=>kernel_rfl))
         all_goals (apply d_store 24;(case hi=>rfl);(case hr=>kernel_rfl);(case hL=>infer_instance);(case hp|hx|hc|hsz|h1=>rfl);(case hb=>repeat first|exact mhd _|apply mtl);(case hfit=>exact nle rfl);(case hov=>((repeat (first|with_reducible exact ov_nil|apply ov_cons));done));(case hu=>repeat first|exact Upd.here _ _|apply Upd.there);(case hν'=>intro e he;simp at he;simp [he]))
         all_goals (apply dtn 25;(case hi|hx=>rfl);(case hq=>kernel_rfl);apply dtk 26;(case hi=>rfl);(case hop=>(apply prd;apply p_fieldAddrB<;>rfl));(case hq=>kernel_rfl))
         all_goals (apply dtk 27;(case hi=>rfl);(case hop=>(apply prd;apply p_fieldAddrB<;>rfl));(case hq=>kernel_rfl))
         all_goals (apply d_store 28;(case hi=>rfl);(case hr=>kernel_rfl);(case hL=>infer_instance);(case hp|hx|hc|hsz|h1=>rfl);(case hb=>repeat first|exact mhd _|apply mtl);(case hfit=>exact nle rfl);(case hov=>((repeat (first|with_reducible exact ov_nil|apply ov_cons));done));(case hu=>repeat first|exact Upd.here _ _|apply Upd.there);(case hν'=>intro e he;simp at he;simp [he]))
         all_goals (apply d_done;(case hr=>kernel_rfl))
        rotate_right
        focus
         (apply x_exec 11;(case hi=>rfl);(case hop=>exact ReadOp.move (r_load1 rfl (Cell.own (by repeat (first|exact mhd _|apply mtl)) rfl)));(case hd=>rfl);rintro _ G0 _ ⟨rfl,hG0,rfl⟩;subst G0;refine ⟨(by intro e he;simp at he;simp [he]),?_⟩)
         all_goals (apply dtk 12;(case hi=>rfl);(case hop=>(apply prd;apply p_lenSlice<;>rfl));(case hq=>kernel_rfl))
         all_goals (apply d_keep 16 (hop:=ReadOp.move ?hop);(case hi=>rfl);(case hr=>kernel_rfl);(case hop=>(apply r_load1;rfl;(apply Cell.own;(case h=>repeat first|exact mhd _|apply mtl);rfl)));(case hd=>rfl))
         all_goals (apply dtn 17;(case hi|hx=>rfl);(case hq=>kernel_rfl);apply dtk 18;(case hi=>rfl);(case hop=>(apply prd;apply p_fieldAddrB<;>rfl));(case hq=>kernel_rfl))
         all_goals (apply dtk 19;(case hi=>rfl);(case hop=>(apply prd;apply p_fieldAddrB<;>rfl));(case hq=>kernel_rfl))
         all_goals (apply d_store 20;(case hi=>rfl);(case hr=>kernel_rfl);(case hL=>infer_instance);(case hp|hx|hc|hsz|h1=>rfl);(case hb=>repeat first|exact mhd _|apply mtl);(case hfit=>exact nle rfl);(case hov=>((repeat (first|with_reducible exact ov_nil|apply ov_cons));done));(case hu=>repeat first|exact Upd.here _ _|apply Upd.there);(case hν'=>intro e he;simp at he;simp [he]))
         all_goals (apply dtn 21;(case hi|hx=>rfl);(case hq=>kernel_rfl);apply dtk 22;(case hi=>rfl);(case hop=>(apply prd;apply p_fieldAddrB<;>rfl));(case hq=>kernel_rfl))
         all_goals (apply dtk 23;(case hi=>rfl);(case hop=>(apply prd;apply p_fieldAddrB<;>rfl));(case hq=>kernel_rfl))
         all_goals (apply d_store 24;(case hi=>rfl);(case hr=>kernel_rfl);(case hL=>infer_instance);(case hp|hx|hc|hsz|h1=>rfl);(case hb=>repeat first|exact mhd _|apply mtl);(case hfit=>exact nle rfl);(case hov=>((repeat (first|with_reducible exact ov_nil|apply ov_cons));done));(case hu=>repeat first|exact Upd.here _ _|apply Upd.there);(case hν'=>intro e he;simp at he;simp [he]))
         all_goals (apply dtn 25;(case hi|hx=>rfl);(case hq=>kernel_rfl);apply dtk 26;(case hi=>rfl);(case hop=>(apply prd;apply p_fieldAddrB<;>rfl));(case hq=>kernel_rfl))
         all_goals (apply dtk 27;(case hi=>rfl);(case hop=>(apply prd;apply p_fieldAddrB<;>rfl));(case hq=>kernel_rfl))
         all_goals (apply d_store 28;(case hi=>rfl);(case hr=>kernel_rfl);(case hL=>infer_instance);(case hp|hx|hc|hsz|h1=>rfl);(case hb=>repeat first|exact mhd _|apply mtl);(case hfit=>exact nle rfl);(case hov=>((repeat (first|with_reducible exact ov_nil|apply ov_cons));done));(case hu=>repeat first|exact Upd.here _ _|apply Upd.there);(case hν'=>intro e he;simp at he;simp [he]))
         all_goals (apply d_done;(case hr=>kernel_rfl))
   all_goals
    repeat' (first|apply v_seq|apply v_region|apply v_nil|apply v_pure;(case hop=>first|apply p_assign<;>rfl|apply p_fieldAddrB<;>rfl|apply p_nilCheck<;>rfl|fail);(case hd=>rfl)|apply v_read;(case hop=>first|apply r_loadNo;(case hx=>rfl);(case h=>repeat first|exact mhd _|apply mtl);(case hd=>repeat first|with_reducible exact dt_nil|apply dt_here);(case hn=>rfl)|apply r_load1;rfl;(apply Cell.own;(case h=>repeat first|exact mhd _|apply mtl);rfl)|fail);(case hd=>rfl)|apply v_store;(case hp|hx|hc|hsz|h1=>rfl);(case hb=>repeat first|exact mhd _|apply mtl);(case hfit=>exact nle rfl);(case hov=>((repeat (first|with_reducible exact ov_nil|apply ov_cons));done));(case hu=>repeat first|exact Upd.here _ _|apply Upd.there)|fail)
    refine v_retM [] (outsM_cell_tmp (vs:=ctL f (hdL (hardOf xs').pr (hardOf xs').pn (hardOf xs').base (.slice B0 (hardOf xs').image.length d0) (.slice B1 (hardOf xs').acc.length d1) (.slice B2 (hardOf xs').cho.length d2)) (xs'.length:Nat) (a':Nat)) (e:=50) rfl rfl rfl (by repeat (first|exact mhd _|apply mtl)) rfl) (by repeat (exact List.nil_sublist _)) ?_
    exact ⟨rfl,.inr ⟨f,xs',a',_,hR',rfl,_,_,_,rfl,hi,hac,hch⟩⟩
 ·obtain ⟨h1,h2,h3⟩:=next_drop hw hn
  have hst:=recsF_step (decF f) (D:=D.length) (fun y hy=>hw y (List.mem_of_mem_drop hy)) (by rw [List.length_drop];omega) hn hd
  rw [h1] at hst
  refine v_perm ((hp'.append_left _).append_right _) ?_
  repeat' (first|apply v_nil|apply v_skip|apply v_block|apply v_exit;(case hp=>rfl)|apply v_condT;(case hc=>rfl)|fail)
  refine v_againI (D.length-t.length) rfl ⟨GH.le_trans hle hle2,h2,lv',xs++[x],ν',rfl,rfl,hg',by rw [List.length_append,List.length_singleton];omega,?_⟩ (by omega)
  rw [hrec,hst,List.append_assoc]
  rfl
def LgR (l:List Rc) (G:GH) (r:Value) (G':GH) (μ':OH):Prop:=G'=G∧μ'=[]∧∃ b,r=.bool b∧(b=false→l.length≤40∧∀ x∈l,¬ x.large∧x.image.length≤300)
theorem rLarge_s {G:GH}{l:List Rc}{lv:Value}(hs:Rs G lv l):Con Tryz.prog 18 #[lv] G [] (LgR l G):=by
 obtain ⟨A,c,ivf,rfl,hlc,hcm,hsome,hcp,him,hok⟩:=rsOpen hs
 simp only [maxLen] at hcm
 (refine v_enter Tryz.func18 rfl Tryz.ntmps18 rfl ?_;intro B _)
 repeat' (first|apply v_seq|apply v_region|apply v_nil|apply v_block|apply v_pure;(case hop=>(apply p_assign<;>rfl));(case hd=>rfl)|fail)
 refine v_loop [3,0] (fun us G' μ'=>G'=G∧μ'=[]∧∃ k,k≤l.length∧us=[Value.int .i64 (k:Nat),.slice A l.length c]∧∀ x∈l.take k,¬ x.large∧x.image.length≤300) (fun us=>l.length-(headI us).toNat) rfl ⟨rfl,rfl,0,by omega,rfl,by simp⟩ ?_
 rintro us G' μ' ⟨rfl,rfl,k,hk,rfl,hall⟩
 have e1:((k:Nat):Int).toNat=k:=by omega
 by_cases hlt:k<l.length
 ·have hcx:=hcp k hlt
  have hix:=him k hlt
  have hcok:=hok _ (List.getElem_mem hlt)
  have htk:=List.take_succ_eq_append_getElem hlt
  generalize hxe:l[k]=x at *
  generalize ivf k=iv at *
  obtain ⟨Ai,ci,rfl,hic,him2,-⟩:=id hix.openInt
  simp only [maxLen] at him2
  have hx:RcV G' x (.agg (recL x.kind x.round x.node x.index x.cmd (.slice Ai x.image.length ci)).toArray):=⟨_,rfl,hix⟩
  have ql:=recLarge_s hx hcok.1
  have hci:GH.cell? G' (((adr A).add (k*12)).add 11)=some (.slice Ai x.image.length ci):=hcx.cell (j:=11) rfl
  have hlb:decide x.large=false→¬ x.large:=of_decide_eq_false
  generalize decide x.large=lb at *
  repeat' (first|apply v_seq|apply v_region|apply v_nil|apply v_skip|apply v_block|apply v_blk|apply v_exit;(case hp=>rfl)|apply v_take;(case hg=>rfl)|apply v_pass;(case hg|hn|hd=>rfl)|apply v_pure;(case hop=>first|apply p_move<;>rfl|apply p_lt<;>rfl|apply p_gt<;>rfl|apply p_assign<;>rfl|apply p_pickT<;>rfl|apply p_pickF<;>rfl|apply p_lenSlice<;>rfl|apply p_fieldAddr<;>rfl|apply p_add;(case hx|hy=>rfl);(case h=>omega)|apply p_indexAddrS;(case hx|hi=>rfl);(case h0|h=>omega);(case hA=>(apply_assumption;omega))|fail);(case hd=>rfl)|apply v_condT;(case hc=>rfl)|apply v_cond;(case hc=>rfl);all_goals (intro h;(try simp only [reduceCtorEq,zzz] at h))|apply v_guardB;(case h1|h2=>rfl);all_goals (intro h;(try simp only [reduceCtorEq,zzz] at h);try (exfalso;omega))|apply v_read;(case hop=>first|apply r_loadN;rfl;exact CellsAt.frozen hcx;rfl|apply r_load1;rfl;exact Cell.frozen hci);(case hd=>rfl)|apply v_callJ (hs:=ql);(case ha|hd=>rfl)|fail)
  all_goals first
   |(refine v_ret [] (outsA1 rfl rfl) (by repeat (exact List.Sublist.refl _)) ?_
     refine ⟨rfl,rfl,_,rfl,fun h=>?_⟩
     first|(cases h;done)|(have:=dec_false.1 h;exact ⟨by omega,fun y hy=>hall y (by rw [List.take_of_length_le (by omega)];exact hy)⟩))
   |(refine v_again rfl ⟨rfl,rfl,k+1,by omega,rfl,fun y hy=>?_⟩ (by simp [headI];omega)
     rw [htk] at hy
     rcases List.mem_append.1 hy with hy|hy
     ·exact hall y hy
     ·obtain rfl:=List.mem_singleton.1 hy
      exact ⟨hlb (by assumption),by omega⟩)
   | skip
  all_goals vx_show
 ·obtain rfl:k=l.length:=by omega
  rw [List.take_length] at hall
  repeat' (first|apply v_seq|apply v_region|apply v_nil|apply v_exit;(case hp=>rfl)|apply v_pass;(case hg|hn|hd=>rfl)|apply v_pure;(case hop=>first|apply p_move<;>rfl|apply p_lt<;>rfl|apply p_gt<;>rfl|apply p_assign<;>rfl|apply p_pickF<;>rfl|apply p_lenSlice<;>rfl|fail);(case hd=>rfl)|apply v_condF;(case hc=>rfl)|apply v_guardB;(case h1|h2=>rfl);all_goals (intro h;(try simp only [reduceCtorEq,zzz] at h);try (exfalso;omega))|fail)
  all_goals
   (refine v_ret [] (outsA1 rfl rfl) (by repeat (exact List.Sublist.refl _)) ?_
    refine ⟨rfl,rfl,_,rfl,fun h=>?_⟩
    have:=dec_false.1 h
    exact ⟨by omega,hall⟩)
theorem readF_file {f:Int}{n:Nat}{xs:List Rc}(hf:f=1∨f=2) (hn:n≤xs.length) (hx:∀ x∈xs,okC (encF f) (decF f) x) (hbig:(xs.length:Int)≤9223372036854775807):readF decF (fileB encF f n xs)=some (f,xs,(fileB encF f n xs).length):=by
 obtain ⟨-,h⟩:=readF_cut encF decF (m:=(fileB encF f n xs).length) hf hn hx hbig (Nat.le_refl _)
 have he:endN encF f n xs xs.length=(fileB encF f n xs).length:=by
  unfold endN fileB
  rw [List.take_length,List.length_append]
 have hm:endN encF f n xs n≤(fileB encF f n xs).length:=by
  rw [← he]
  unfold endN
  have:=flatF_len_take (encF f) xs n
  rw [List.take_length]
  omega
 obtain ⟨K,h1,h2,h3,h4,h5⟩:=h (by omega)
 have hK:K=xs.length:=Nat.le_antisymm h2 (h4 _ (Nat.le_refl _) (by omega))
 subst hK
 rw [List.take_length,List.take_length,he] at h5
 exact h5
theorem recs_zero:recsOf Hd.zero=[]:=by
 rw [recsOf_parts]
 simp [part2,part1,Hd.zero]
theorem file_zero:(fileB encF 1 0 []).length=7:=by
 have e1:vbytes 1=[1]:=by decide +kernel
 have e2:vbytes (0:Nat)=[0]:=by decide +kernel
 have e3:vbytes ((2:Nat):Int)=[2]:=by decide +kernel
 unfold fileB
 rw [e1,e2,List.length_append,frB_len]
 show (vbytes ((2:Nat):Int)).length+2+4+0=7
 rw [e3]
 rfl
theorem records20_s {G:GH}{H:Hd}{L:List Value}{n:Nat}(hh:HdV G H L) (g:Good n H) (hn:n≤40) :
 Con Tryz.prog 15 #[.agg L.toArray] G [] (fun r G' μ'=>GrowR G' r (recsOf H) μ'):=by
 have hrok:=recs_ok g
 obtain ⟨iv,av,cv,rfl,hi,ha,hc⟩:=hh
 have him:=g.img
 have hbs:=g.base
 have hnacc:=g.nacc
 have hncho:=g.ncho
 have hmay:(H.pr=0∧H.pn=0)↔¬ 0<H.pr:=by
  have:=g.may
  unfold mayP at this
  omega
 obtain ⟨A0,c0,rfl,hl0,hm0,-,-,hwx⟩:=id hi.openInt
 obtain ⟨A1,c1,rfl,hl1,hm1,hs1,hcp1,hcb1,hcc1,-⟩:=esOpen ha
 obtain ⟨A2,c2,rfl,hl2,hm2,hs2,hcp2,hcb2,hcc2,-⟩:=esOpen hc
 simp only [maxLen] at hm0 hm1 hm2
 rw [recsOf_parts] at hrok ⊢
 have hp1:(part1 H).length≤1:=by unfold part1;split<;>simp
 have hp2:(part2 H).length≤2:=by
  unfold part2
  rw [List.length_append]
  split<;>simp<;>omega
 have hp1o:∀ x∈part1 H,x.cmd.ok∧x.small:=fun x hx=>hrok x (by unfold part2;simp [hx])
 have hp2o:∀ x∈part2 H,x.cmd.ok∧x.small:=fun x hx=>hrok x (by simp [hx])
 (refine v_enter Tryz.func15 rfl Tryz.ntmps15 rfl ?_;intro B _)
 repeat' (first|apply v_seq|apply v_region|apply v_nil|apply v_pure;(case hop=>first|apply p_gt<;>rfl|apply p_assign<;>rfl|apply p_fieldAddrB<;>rfl|fail);(case hd=>rfl)|apply v_read;(case hop=>(apply r_load1;rfl;(apply Cell.own;(case h=>repeat exact mhd _);rfl)));(case hd=>rfl)|apply v_box;(case hx|hz|hd=>rfl);intro b|fail)
 rename Nat=>hb
 refine v_cut (fun σ1 G' μ'=>GH.le G G'∧∃ v ν,EnvHas σ1 [(3,v),(1,.pointer (some ⟨hb,0,none⟩))]∧GrowR G' v (part1 H) ν∧List.Sublist (ν++[(hb,hardO (hdL H.pr H.pn H.base (.slice A0 H.image.length c0) (.slice A1 H.acc.length c1) (.slice A2 H.cho.length c2)))]) μ') ?_ ?_
 ·intro hcut
  refine v_cond rfl (fun h=>?_) (fun h=>?_)
  ·rw [dec_true] at h
   have e1:part1 H=[imgRec H.base H.image]:=by unfold part1;rw [if_pos h]
   have hio:=hp1o _ (by rw [e1];exact List.mem_singleton.2 rfl)
   have k1:=img_rcR (b:=H.base) (im:=H.image) hi hio.2
   repeat' (first|(refine hcut _ _ _ ?_;exact ⟨GH.le_refl _,_,_,⟨rfl,rfl,trivial⟩,by rw [e1];exact GrowR.snoc (css:=[]) (l:=[]) rfl (fun i y cs h=>by simp at h) (by assumption) k1,(List.Sublist.append_left (by repeat (first|exact List.Sublist.refl _|apply List.Sublist.cons)) _)⟩)|apply v_region|apply v_nil|apply v_pure;(case hop=>first|apply p_move<;>rfl|apply p_assign<;>rfl|apply p_fieldAddrB<;>rfl|apply p_build;(case hz=>rfl);(case hv=>(simp only [List.map_cons,List.map_nil];repeat (first|with_reducible exact evs_nil|apply evs_cons;(case h1=>rfl))));(case hb=>(apply bldL;repeat (first|exact bld_nil|apply bld_cons;(case hpf|hc|hs|hl=>rfl);(case ho=>((repeat (first|with_reducible exact ov_nil|apply ov_cons));done))))));(case hd=>rfl)|apply v_append (hg:=Grow.nil 42 12) (m':=1) (us:=recL 4 0 0 H.base zeroC (.slice A0 H.image.length c0)) (hp:=PickA.perm (by repeat (exact PickA.here _))) (hsrc:=Src.own (e:=42) (by repeat (exact mhd _)) rfl);(case hzs=>rfl);(case hsz=>omega);(case hs|hx=>rfl);(case hb=>omega);(case hb'=>simp only [maxLen];omega);(case hd|h1=>rfl);intro v3 n3 hg3|apply v_read;(case hop=>(apply r_load1;rfl;(apply Cell.own;(case h=>repeat exact mhd _);rfl)));(case hd=>rfl)|apply v_buildSlice;(case hz|hi=>rfl);(case hv=>(simp only [List.map_cons,List.map_nil];repeat (first|with_reducible exact evs_nil|apply evs_cons;(case h1=>rfl))));(case hp=>(apply pk_cons;(case hc|hs=>rfl);(case h=>(with_reducible exact pk_nil));(case he=>((repeat (first|with_reducible exact ap_nil|apply ap_cons));done))));(case hb|hd=>rfl);intro b|fail)
  ·rw [dec_false] at h
   have e1:part1 H=[]:=by unfold part1;rw [if_neg h]
   rw [e1] at hcut
   apply v_skip
   exact hcut _ _ _ ⟨GH.le_refl _,.slice none 0 0,[],⟨rfl,rfl,trivial⟩,GrowR.none _,(by repeat (exact List.Sublist.refl _))⟩
 rintro σ1 G1 μ1 ⟨hle1,v1,ν1,hE,hg1,hμ⟩
 refine v_drop hμ (v_has hE ?_)
 clear hE hμ
 repeat' (first|apply v_seq|apply v_region|apply v_nil|apply v_pure;(case hop=>first|apply p_gt<;>rfl|apply p_fieldAddrB<;>rfl|fail);(case hd=>rfl)|apply v_read;(case hop=>(apply r_load1;rfl;(apply Cell.own;(case h=>repeat first|exact mhd _|apply List.mem_append_right);rfl)));(case hd=>rfl)|fail)
 refine v_cut (fun σ1 G' μ'=>GH.le G1 G'∧∃ v ν,EnvHas σ1 [(3,v),(1,.pointer (some ⟨hb,0,none⟩))]∧GrowR G' v (part2 H) ν∧List.Sublist (ν++[(hb,hardO (hdL H.pr H.pn H.base (.slice A0 H.image.length c0) (.slice A1 H.acc.length c1) (.slice A2 H.cho.length c2)))]) μ') ?_ ?_
 ·intro hcut
  refine v_cond rfl (fun h=>?_) (fun h=>?_)
  ·rw [dec_true] at h
   have h':¬ (H.pr=0∧H.pn=0):=fun hh=>hmay.1 hh h
   have e2:part2 H=part1 H++[promRec H.pr H.pn]:=by unfold part2;rw [if_neg h']
   have hio:=hp2o _ (by rw [e2];exact List.mem_append_right _ (List.mem_singleton.2 rfl))
   obtain ⟨css,hcl,hcr,hgr⟩:=id hg1
   repeat' (first|(refine hcut _ _ _ ?_;exact ⟨GH.le_refl _,_,_,⟨rfl,rfl,trivial⟩,by rw [e2];exact GrowR.snoc hcl hcr (by assumption) (rcR_nil rfl hio.1 hio.2),(List.Sublist.append_left (by repeat (first|exact List.Sublist.refl _|apply List.Sublist.cons)) _)⟩)|apply v_region|apply v_nil|apply v_pure;(case hop=>first|apply p_move<;>rfl|apply p_assign<;>rfl|apply p_fieldAddrB<;>rfl|apply p_build;(case hz=>rfl);(case hv=>(simp only [List.map_cons,List.map_nil];repeat (first|with_reducible exact evs_nil|apply evs_cons;(case h1=>rfl))));(case hb=>(apply bldL;repeat (first|exact bld_nil|apply bld_cons;(case hpf|hc|hs|hl=>rfl);(case ho=>((repeat (first|with_reducible exact ov_nil|apply ov_cons));done))))));(case hd=>rfl)|apply v_append (hg:=hgr) (m':=1) (us:=recL 1 H.pr H.pn 0 zeroC (.slice none 0 0)) (hp:=PickA.perm (by repeat (first|exact PickA.here _|apply PickA.cons))) (hsrc:=Src.own (e:=42) (by repeat (exact mhd _)) rfl);(case hzs=>rfl);(case hsz=>omega);(case hs|hx=>rfl);(case hb=>omega);(case hb'=>simp only [maxLen];omega);(case hd|h1=>rfl);intro v3 n3 hg3|apply v_read;(case hop=>(apply r_loadNo;(case hx=>rfl);(case h=>repeat first|exact mhd _|apply List.mem_append_right);(case hd=>repeat first|with_reducible exact dt_nil|apply dt_here);(case hn=>rfl)));(case hd=>rfl)|apply v_buildSlice;(case hz|hi=>rfl);(case hv=>(simp only [List.map_cons,List.map_nil];repeat (first|with_reducible exact evs_nil|apply evs_cons;(case h1=>rfl))));(case hp=>(apply pk_cons;(case hc|hs=>rfl);(case h=>(with_reducible exact pk_nil));(case he=>((repeat (first|with_reducible exact ap_nil|apply ap_cons));done))));(case hb|hd=>rfl);intro b|fail)
  ·rw [dec_false] at h
   have e2:part2 H=part1 H:=by unfold part2;rw [if_pos (hmay.2 h),List.append_nil]
   apply v_skip
   refine hcut _ _ _ ?_
   exact ⟨GH.le_refl _,v1,ν1,⟨rfl,rfl,trivial⟩,by rw [e2];exact hg1,List.Sublist.refl _⟩
 rintro σ2 G2 μ2 ⟨hle2,v2,ν2,hE,hg2,hμ⟩
 refine v_drop hμ (v_has hE ?_)
 clear hE hμ
 have hle:=GH.le_trans hle1 hle2
 have hcp1':=fun i h=>(hcp1 i h).le hle
 have hcp2':=fun i h=>(hcp2 i h).le hle
 have hcb1':=fun i h=>(hcb1 i h).le hle
 have hcb2':=fun i h=>(hcb2 i h).le hle
 have hcc1':=fun i h=>(hcc1 i h).le hle
 have hcc2':=fun i h=>(hcc2 i h).le hle
 clear hcp1 hcp2 hcb1 hcb2 hcc1 hcc2
 repeat' (first|apply v_seq|apply v_region|apply v_nil|apply v_block|apply v_pure;(case hop=>(apply p_assign<;>rfl));(case hd=>rfl)|fail)
 refine v_loop [4,3,1] (fun us G' μ'=>G'=G2∧∃ k v ν,k≤H.acc.length∧us=[Value.int .i64 (k:Nat),v,.pointer (some ⟨hb,0,none⟩)]∧GrowR G2 v (part2 H++(H.acc.take k).map accRec) ν∧μ'=ν++[(hb,hardO (hdL H.pr H.pn H.base (.slice A0 H.image.length c0) (.slice A1 H.acc.length c1) (.slice A2 H.cho.length c2)))]) (fun us=>H.acc.length-(headI us).toNat) rfl ⟨rfl,0,v2,ν2,by omega,rfl,by simpa using hg2,rfl⟩ ?_
 rintro us G' _ ⟨rfl,k,v,ν,hk,rfl,hgk,rfl⟩
 by_cases hlt:k<H.acc.length
 ·have e1:((k:Nat):Int).toNat=k:=by omega
  have kc0:GH.cell? G' (((adr A1).add (k*10)).add 0)=some (.int .i64 (H.acc[k]).index):=(hcp1' k hlt).cell (j:=0) rfl
  have kc1:=hcb1' k hlt
  have kc3:=hcc1' k hlt
  have hA:=hs1 (by omega)
  have htk:part2 H++(H.acc.take (k+1)).map accRec=(part2 H++(H.acc.take k).map accRec)++[accRec H.acc[k]]:=by
   rw [List.take_succ_eq_append_getElem hlt,List.map_append,← List.append_assoc]
   rfl
  have hio:=hrok (accRec H.acc[k]) (by
   simp only [List.mem_append,List.mem_map]
   exact .inl (.inr ⟨_,List.getElem_mem hlt,rfl⟩))
  have hln:(part2 H++(H.acc.take k).map accRec).length≤100:=by
   rw [List.length_append,List.length_map,List.length_take]
   omega
  obtain ⟨css,hcl,hcr,hgr⟩:=id hgk
  obtain ⟨Ag,cg,rfl,-,-⟩:=hgr.shape
  generalize hxe:H.acc[k]=e at *
  generalize part2 H++(H.acc.take k).map accRec=l0 at *
  repeat' (first|apply v_seq|apply v_region|apply v_nil|apply v_skip|apply v_block|apply v_pure;(case hop=>first|apply p_move<;>rfl|apply p_lt<;>rfl|apply p_lenSlice<;>rfl|apply p_fieldAddrB<;>rfl|fail);(case hd=>rfl)|apply v_cond;(case hc=>rfl);all_goals (intro h;(try simp only [reduceCtorEq,zzz] at h);try (exfalso;omega))|apply v_read;(case hop=>(apply r_load1;rfl;(apply Cell.own;(case h=>repeat first|exact mhd _|apply List.mem_append_right);rfl)));(case hd=>rfl)|fail)
  refine d_start [(hb,hardO (hdL H.pr H.pn H.base (.slice A0 H.image.length c0) (.slice A1 H.acc.length c1) (.slice A2 H.cho.length c2)))] (by kernel_rfl) (by kernel_rfl) (by kernel_rfl) (by intro e he;(simp at he;simp [he];done)) ?_
  all_goals (apply dtm 0;(case hi|hx=>rfl);(case hq=>kernel_rfl);apply dtk 1;(case hi=>rfl);(case hop=>(apply prd;apply p_fieldAddrB<;>rfl));(case hq=>kernel_rfl))
  all_goals (apply dtk 2;(case hi=>rfl);(case hop=>(apply r_load1;rfl;(apply Cell.own;(case h=>repeat exact mhd _);rfl)));(case hq=>kernel_rfl);apply dtm 3;(case hi|hx=>rfl);(case hq=>kernel_rfl))
  all_goals (apply dtk 4;(case hi=>rfl);(case hop=>(apply prd;apply p_indexAddrS;(case hx|hi=>rfl);(case h0|h=>omega);(case hA=>assumption)));(case hq=>kernel_rfl);apply dtk 5;(case hi=>rfl);(case hop=>(apply prd;apply p_fieldAddr<;>rfl));(case hq=>kernel_rfl))
  all_goals (apply dtk 6;(case hi=>rfl);(case hop=>((apply r_loadN;rfl;exact CellsAt.frozen kc1;rfl)));(case hq=>kernel_rfl);apply dtk 7;(case hi=>rfl);(case hop=>(apply prd;apply p_fieldAddrB<;>rfl));(case hq=>kernel_rfl))
  all_goals (apply dtk 8;(case hi=>rfl);(case hop=>(apply r_load1;rfl;(apply Cell.own;(case h=>repeat exact mhd _);rfl)));(case hq=>kernel_rfl);apply dtm 9;(case hi|hx=>rfl);(case hq=>kernel_rfl))
  all_goals (apply dtk 10;(case hi=>rfl);(case hop=>(apply prd;apply p_indexAddrS;(case hx|hi=>rfl);(case h0|h=>omega);(case hA=>assumption)));(case hq=>kernel_rfl);apply dtk 11;(case hi=>rfl);(case hop=>(apply prd;apply p_fieldAddr<;>rfl));(case hq=>kernel_rfl))
  all_goals (apply dtk 12;(case hi=>rfl);(case hop=>((apply r_load1;rfl;exact Cell.frozen kc0)));(case hq=>kernel_rfl);apply dtk 13;(case hi=>rfl);(case hop=>(apply prd;apply p_fieldAddrB<;>rfl));(case hq=>kernel_rfl))
  all_goals (apply dtk 14;(case hi=>rfl);(case hop=>(apply r_load1;rfl;(apply Cell.own;(case h=>repeat exact mhd _);rfl)));(case hq=>kernel_rfl);apply dtm 15;(case hi|hx=>rfl);(case hq=>kernel_rfl))
  all_goals (apply dtk 16;(case hi=>rfl);(case hop=>(apply prd;apply p_indexAddrS;(case hx|hi=>rfl);(case h0|h=>omega);(case hA=>assumption)));(case hq=>kernel_rfl);apply dtk 17;(case hi=>rfl);(case hop=>(apply prd;apply p_fieldAddr<;>rfl));(case hq=>kernel_rfl))
  all_goals (apply dtk 18;(case hi=>rfl);(case hop=>((apply r_loadN;rfl;exact CellsAt.frozen kc3;rfl)));(case hq=>kernel_rfl))
  all_goals (apply dtk 19;(case hi=>rfl);(case hop=>(apply prd;apply p_build;(case hz=>rfl);(case hv=>(simp only [List.map_cons,List.map_nil];repeat (first|with_reducible exact evs_nil|apply evs_cons;(case h1=>rfl))));(case hb=>(apply bldL;repeat (first|exact bld_nil|apply bld_cons;(case hpf|hc|hs|hl=>rfl);(case ho=>((repeat (first|with_reducible exact ov_nil|apply ov_cons));done)))))));(case hq=>kernel_rfl))
  all_goals (apply d_buildSlice 20;(case hi=>rfl);(case hr=>kernel_rfl);(case hT=>infer_instance);(case hL=>infer_instance);(case hz|hl=>rfl);(case hv=>(simp only [List.map_cons,List.map_nil];repeat (first|with_reducible exact evs_nil|apply evs_cons;(case h1=>rfl))));(case hp=>(apply pk_cons;(case hc|hs=>rfl);(case h=>(with_reducible exact pk_nil));(case he=>((repeat (first|with_reducible exact ap_nil|apply ap_cons));done))));(case hb|hd=>rfl);(case hν=>intro e he;(simp at he;simp [he];done));intro bb)
  all_goals (apply d_append 21 (hg:=hgr) (q':=1) (us:=recL 2 e.round e.node e.index e.cmd (.slice none 0 0)) (hp:=PickA.perm (by repeat (first|exact PickA.here _|apply PickA.cons))) (hsrc:=Src.own (e:=42) (by repeat (exact mhd _)) rfl);(case hi=>rfl);(case hr=>kernel_rfl);(case hT=>infer_instance);(case hL=>infer_instance);(case hzs=>rfl);(case hsz=>omega);(case hs|hx=>rfl);(case hb=>omega);(case hb'=>simp only [maxLen];omega);(case hd|h1=>rfl);(case hν=>intro e he;(simp at he;simp [he];done));intro v3 n3 hg3)
  all_goals (apply dta 22;(case hi|hx=>rfl);(case hq=>kernel_rfl))
  all_goals (apply d_done;(case hr=>kernel_rfl))
  repeat' (first|apply v_region|apply v_nil|apply v_blk|apply v_pure;(case hop=>first|apply p_move<;>rfl|apply p_assign<;>rfl|apply p_add;(case hx|hy=>rfl);(case h=>omega)|fail);(case hd=>rfl)|fail)
  refine v_drop (ν:=n3++[(hb,hardO (hdL H.pr H.pn H.base (.slice A0 H.image.length c0) (.slice A1 H.acc.length c1) (.slice A2 H.cho.length c2)))]) (List.Sublist.append_left (by repeat (first|exact List.Sublist.refl _|apply List.Sublist.cons)) _) ?_
  refine v_again rfl ⟨rfl,k+1,v3,n3,by omega,rfl,?_,rfl⟩ (by simp [headI];omega)
  rw [htk]
  exact GrowR.snoc hcl hcr hg3 (rcR_nil rfl hio.1 hio.2)
 ·have htk:part2 H++(H.acc.take k).map accRec=part2 H++H.acc.map accRec:=by rw [List.take_of_length_le (by omega)]
  rw [htk] at hgk
  repeat' (first|apply v_seq|apply v_region|apply v_nil|apply v_block|apply v_exit;(case hp=>rfl)|apply v_pure;(case hop=>first|apply p_move<;>rfl|apply p_lt<;>rfl|apply p_assign<;>rfl|apply p_lenSlice<;>rfl|apply p_fieldAddrB<;>rfl|fail);(case hd=>rfl)|apply v_cond;(case hc=>rfl);all_goals (intro h;(try simp only [reduceCtorEq,zzz] at h);try (exfalso;omega))|apply v_read;(case hop=>(apply r_load1;rfl;(apply Cell.own;(case h=>repeat first|exact mhd _|apply List.mem_append_right);rfl)));(case hd=>rfl)|fail)
  clear htk hk hlt
  refine v_loop [5,3,1] (fun us G2 μ'=>G2=G'∧∃ k v ν,k≤H.cho.length∧us=[Value.int .i64 (k:Nat),v,.pointer (some ⟨hb,0,none⟩)]∧GrowR G' v (part2 H++H.acc.map accRec++(H.cho.take k).map choRec) ν∧μ'=ν++[(hb,hardO (hdL H.pr H.pn H.base (.slice A0 H.image.length c0) (.slice A1 H.acc.length c1) (.slice A2 H.cho.length c2)))]) (fun us=>H.cho.length-(headI us).toNat) rfl ⟨rfl,0,v,ν,by omega,rfl,by simpa using hgk,rfl⟩ ?_
  rintro us G3 _ ⟨hG3,k,v,ν,hk,rfl,hgk,rfl⟩
  subst hG3
  by_cases hlt:k<H.cho.length
  ·have e1:((k:Nat):Int).toNat=k:=by omega
   have kc0:GH.cell? G3 (((adr A2).add (k*10)).add 0)=some (.int .i64 (H.cho[k]).index):=(hcp2' k hlt).cell (j:=0) rfl
   have kc3:=hcc2' k hlt
   have hA:=hs2 (by omega)
   have htk:part2 H++H.acc.map accRec++(H.cho.take (k+1)).map choRec=(part2 H++H.acc.map accRec++(H.cho.take k).map choRec)++[choRec H.cho[k]]:=by
    rw [List.take_succ_eq_append_getElem hlt,List.map_append,← List.append_assoc]
    rfl
   have hio:=hrok (choRec H.cho[k]) (by
    simp only [List.mem_append,List.mem_map]
    exact .inr ⟨_,List.getElem_mem hlt,rfl⟩)
   have hln:(part2 H++H.acc.map accRec++(H.cho.take k).map choRec).length≤100:=by
    rw [List.length_append,List.length_append,List.length_map,List.length_map,List.length_take]
    omega
   obtain ⟨css,hcl,hcr,hgr⟩:=id hgk
   obtain ⟨Ag,cg,rfl,-,-⟩:=hgr.shape
   generalize hxe:H.cho[k]=e at *
   generalize part2 H++H.acc.map accRec++(H.cho.take k).map choRec=l0 at *
   repeat' (first|apply v_seq|apply v_region|apply v_nil|apply v_skip|apply v_block|apply v_pure;(case hop=>first|apply p_move<;>rfl|apply p_lt<;>rfl|apply p_lenSlice<;>rfl|apply p_fieldAddrB<;>rfl|fail);(case hd=>rfl)|apply v_cond;(case hc=>rfl);all_goals (intro h;(try simp only [reduceCtorEq,zzz] at h);try (exfalso;omega))|apply v_read;(case hop=>(apply r_load1;rfl;(apply Cell.own;(case h=>repeat first|exact mhd _|apply List.mem_append_right);rfl)));(case hd=>rfl)|fail)
   refine d_start [(hb,hardO (hdL H.pr H.pn H.base (.slice A0 H.image.length c0) (.slice A1 H.acc.length c1) (.slice A2 H.cho.length c2)))] (by kernel_rfl) (by kernel_rfl) (by kernel_rfl) (by intro e he;(simp at he;simp [he];done)) ?_
   all_goals (apply dtm 0;(case hi|hx=>rfl);(case hq=>kernel_rfl);apply dtk 1;(case hi=>rfl);(case hop=>(apply prd;apply p_fieldAddrB<;>rfl));(case hq=>kernel_rfl))
   all_goals (apply dtk 2;(case hi=>rfl);(case hop=>(apply r_load1;rfl;(apply Cell.own;(case h=>repeat exact mhd _);rfl)));(case hq=>kernel_rfl);apply dtm 3;(case hi|hx=>rfl);(case hq=>kernel_rfl))
   all_goals (apply dtk 4;(case hi=>rfl);(case hop=>(apply prd;apply p_indexAddrS;(case hx|hi=>rfl);(case h0|h=>omega);(case hA=>assumption)));(case hq=>kernel_rfl);apply dtk 5;(case hi=>rfl);(case hop=>(apply prd;apply p_fieldAddr<;>rfl));(case hq=>kernel_rfl))
   all_goals (apply dtk 6;(case hi=>rfl);(case hop=>((apply r_load1;rfl;exact Cell.frozen kc0)));(case hq=>kernel_rfl);apply dtk 7;(case hi=>rfl);(case hop=>(apply prd;apply p_fieldAddrB<;>rfl));(case hq=>kernel_rfl))
   all_goals (apply dtk 8;(case hi=>rfl);(case hop=>(apply r_load1;rfl;(apply Cell.own;(case h=>repeat exact mhd _);rfl)));(case hq=>kernel_rfl);apply dtm 9;(case hi|hx=>rfl);(case hq=>kernel_rfl))
   all_goals (apply dtk 10;(case hi=>rfl);(case hop=>(apply prd;apply p_indexAddrS;(case hx|hi=>rfl);(case h0|h=>omega);(case hA=>assumption)));(case hq=>kernel_rfl);apply dtk 11;(case hi=>rfl);(case hop=>(apply prd;apply p_fieldAddr<;>rfl));(case hq=>kernel_rfl))
   all_goals (apply dtk 12;(case hi=>rfl);(case hop=>((apply r_loadN;rfl;exact CellsAt.frozen kc3;rfl)));(case hq=>kernel_rfl))
   all_goals (apply dtk 13;(case hi=>rfl);(case hop=>(apply prd;apply p_build;(case hz=>rfl);(case hv=>(simp only [List.map_cons,List.map_nil];repeat (first|with_reducible exact evs_nil|apply evs_cons;(case h1=>rfl))));(case hb=>(apply bldL;repeat (first|exact bld_nil|apply bld_cons;(case hpf|hc|hs|hl=>rfl);(case ho=>((repeat (first|with_reducible exact ov_nil|apply ov_cons));done)))))));(case hq=>kernel_rfl))
   all_goals (apply d_buildSlice 14;(case hi=>rfl);(case hr=>kernel_rfl);(case hT=>infer_instance);(case hL=>infer_instance);(case hz|hl=>rfl);(case hv=>(simp only [List.map_cons,List.map_nil];repeat (first|with_reducible exact evs_nil|apply evs_cons;(case h1=>rfl))));(case hp=>(apply pk_cons;(case hc|hs=>rfl);(case h=>(with_reducible exact pk_nil));(case he=>((repeat (first|with_reducible exact ap_nil|apply ap_cons));done))));(case hb|hd=>rfl);(case hν=>intro e he;(simp at he;simp [he];done));intro bb)
   all_goals (apply d_append 15 (hg:=hgr) (q':=1) (us:=recL 3 0 0 e.index e.cmd (.slice none 0 0)) (hp:=PickA.perm (by repeat (first|exact PickA.here _|apply PickA.cons))) (hsrc:=Src.own (e:=42) (by repeat (exact mhd _)) rfl);(case hi=>rfl);(case hr=>kernel_rfl);(case hT=>infer_instance);(case hL=>infer_instance);(case hzs=>rfl);(case hsz=>omega);(case hs|hx=>rfl);(case hb=>omega);(case hb'=>simp only [maxLen];omega);(case hd|h1=>rfl);(case hν=>intro e he;(simp at he;simp [he];done));intro v3 n3 hg3)
   all_goals (apply dta 16;(case hi|hx=>rfl);(case hq=>kernel_rfl))
   all_goals (apply d_done;(case hr=>kernel_rfl))
   repeat' (first|apply v_region|apply v_nil|apply v_blk|apply v_pure;(case hop=>first|apply p_move<;>rfl|apply p_assign<;>rfl|apply p_add;(case hx|hy=>rfl);(case h=>omega)|fail);(case hd=>rfl)|fail)
   refine v_drop (ν:=n3++[(hb,hardO (hdL H.pr H.pn H.base (.slice A0 H.image.length c0) (.slice A1 H.acc.length c1) (.slice A2 H.cho.length c2)))]) (List.Sublist.append_left (by repeat (first|exact List.Sublist.refl _|apply List.Sublist.cons)) _) ?_
   refine v_again rfl ⟨rfl,k+1,v3,n3,by omega,rfl,?_,rfl⟩ (by simp [headI];omega)
   rw [htk]
   exact GrowR.snoc hcl hcr hg3 (rcR_nil rfl hio.1 hio.2)
  ·have htk:part2 H++H.acc.map accRec++(H.cho.take k).map choRec=part2 H++H.acc.map accRec++H.cho.map choRec:=by rw [List.take_of_length_le (by omega)]
   rw [htk] at hgk
   repeat' (first|apply v_seq|apply v_region|apply v_nil|apply v_exit;(case hp=>rfl)|apply v_pure;(case hop=>first|apply p_move<;>rfl|apply p_lt<;>rfl|apply p_assign<;>rfl|apply p_lenSlice<;>rfl|apply p_fieldAddrB<;>rfl|fail);(case hd=>rfl)|apply v_cond;(case hc=>rfl);all_goals (intro h;(try simp only [reduceCtorEq,zzz] at h);try (exfalso;omega))|apply v_read;(case hop=>(apply r_load1;rfl;(apply Cell.own;(case h=>repeat first|exact mhd _|apply List.mem_append_right);rfl)));(case hd=>rfl)|fail)
   exact v_ret ν (outsA1 rfl rfl) (List.sublist_append_left _ _) hgk
theorem GrowR.app {G:GH}{v':Value}{l l2:List Rc}{ν':OH}{css css2:List (List Value)}(h1:css.length=l.length) (h2:∀ (i:Nat) y cs,l[i]? = some y→css[i]? = some cs→RcR G y cs) (k1:css2.length=l2.length) (k2:∀ (i:Nat) y cs,l2[i]? = some y→css2[i]? = some cs→RcR G y cs) (h:Grow 42 12 v' (l.length+l2.length) (css.flatten++css2.flatten) ν'):GrowR G v' (l++l2) ν':=by
 refine ⟨css++css2,by simp [h1,k1],fun i y cs hy hc=>?_,by simpa using h⟩
 by_cases hi:i<l.length
 ·rw [List.getElem?_append_left hi] at hy
  rw [List.getElem?_append_left (by omega)] at hc
  exact h2 i y cs hy hc
 ·rw [List.getElem?_append_right (by omega)] at hy hc
  rw [h1] at hc
  exact k2 _ y cs hy hc
structure OkF (f:Int) (x:Rc):Prop where
 err:errF f x=0
 img:x.image.length≤300
theorem headB_size (f:Int) (n:Nat):(vbytes f++vbytes (n:Nat)).length≤30∧(frB (vbytes f++vbytes (n:Nat))).length≤100:=by
 have h1:=vbytes_len f
 have h2:=vbytes_len (n:Nat)
 have h3:=frB_max (vbytes f++vbytes (n:Nat))
 rw [List.length_append] at h3
 rw [List.length_append]
 omega
theorem el_rec {H:Type}{enc:TypeId×Value→H}{W:World}:Elem enc Tryz.prog W 42 (RcR (ghost W)):=by
 intro fuel cs x hf
 obtain ⟨y,⟨iv,he,hs⟩,hc,hw⟩:=el_rcb hf
 refine ⟨y,iv,?_,hc,hw,hs⟩
 have:=congrArg (fun v=>match v with|Value.agg a=>a.toList|_ => []) he
 simpa using this
def crcTab:List Int:=[0,498536548,997073096,651767980,1994146192,1802195444,1303535960,1342533948,3988292384,4027552580,3604390888,3412177804,2607071920,2262029012,2685067896,3183342108]
theorem crcTab_at:∀ i,i<16→crcTab[i]? = some ((tab i).toNat:Int):=by decide +kernel
theorem crcEq:(Rows.laid_changeover_crc_table:DataW Unit)=Lib.tabData .u32 crcTab:=by kernel_rfl
abbrev tabsLaid3:List (String×DataW Unit):=[("unicode/utf8.acceptRanges",Rows.laid_unicode_utf8_acceptRanges),("changeover/crc.table",Rows.laid_changeover_crc_table),("unicode/utf8.first",Rows.laid_unicode_utf8_first)]
theorem tabs3_plain:(tabsLaid3.all fun x=>x.2.handleName?.isNone)=true:=by kernel_rfl
theorem tabs3_of_laid {W:World}(hL:laidMetH Tryz.prog tabsLaid3 W):TabsG (ghost W)∧CrcG (ghost W):=by
 rw [MakeChecks.laidMetH_plain _ _ _ tabs3_plain] at hL
 have r1:=Lib.laidMet.reads hL (.tail _ (.tail _ (.head _)))
 have r2:=Lib.laidMet.reads hL (.head _)
 have r3:=Lib.laidMet.reads hL (.tail _ (.head _))
 rw [firstEq] at r1
 rw [acceptEq] at r2
 rw [crcEq] at r3
 have hU:=utf8Tabs_of_readsT (ρ:=laysDecode_ren) { laysDecode with } ⟨by kernel_rfl,by kernel_rfl,by kernel_rfl,by kernel_rfl,by kernel_rfl,by kernel_rfl,by kernel_rfl⟩ r1 r2
 clear hL r1 r2
 constructor
 ·intro w hw
  have lift:∀ (a:Addr) v,W.cell? a=some v→w.cell? a=some v:=by
   intro a v h
   unfold World.cell? at h ⊢
   cases hb:W.heap[a.block]? with
   | none=>rw [hb] at h;simp at h
   | some o=>rw [hw _ _ hb];rw [hb] at h;exact h
  exact ⟨fun c hc=>lift _ _ (hU.1 c hc),fun i hi=>⟨lift _ _ (hU.2 i hi).1,lift _ _ (hU.2 i hi).2⟩⟩
 ·obtain ⟨g,t,cs,fuel,p,hg,hty,hvar,hd⟩:=r3
  obtain rfl:=Option.some.inj ((show Tryz.prog.globalNamed "changeover/crc.table" = some 0 by kernel_rfl).symm.trans hg)
  obtain rfl:=Option.some.inj ((show (Tryz.prog.globals[0]?).map (·.type)=some 240 by kernel_rfl).symm.trans hty)
  have hcs:=Lib.cells_of_tab Tryz.underlying240 Tryz.underlying135 (by kernel_rfl) (by kernel_rfl) hd
  intro i hi
  rw [ghost_cell]
  have:=World.var?_cell hg hvar i
  rw [this,← Array.getElem?_toList,hcs,List.getElem?_map,crcTab_at i hi]
  rfl
theorem recs_light {H:Hd}(h:CheckP H) (hi:H.image.length≤300):∀ x∈recsOf H,¬ x.large∧x.image.length≤300:=by
 obtain ⟨-,-,-,-,ha,hc,-,-⟩:=h
 have key:∀ e:Ent,oneI e=0→e.cmd.key.size≤24∧e.cmd.val.size≤48∧e.cmd.old.size≤48:=fun e he=>cmdSz (one_parts he).2.2.2
 have hz:zeroCm.key.size=0∧zeroCm.val.size=0∧zeroCm.old.size=0:=⟨rfl,rfl,rfl⟩
 have hz2:zeroC.key.size=0∧zeroC.val.size=0∧zeroC.old.size=0:=⟨rfl,rfl,rfl⟩
 intro x hx
 rw [recsOf_parts] at hx
 unfold part2 part1 at hx
 simp only [List.mem_append,List.mem_map] at hx
 unfold Rc.large
 obtain ((hx|hx)|⟨e,he,rfl⟩)|⟨e,he,rfl⟩:=hx
 ·split at hx
  ·obtain rfl:=List.mem_singleton.1 hx
   simp only [imgRec]
   omega
  ·cases hx
 ·split at hx
  ·cases hx
  ·obtain rfl:=List.mem_singleton.1 hx
   simp only [promRec,List.length_nil]
   omega
 ·have:=key e (chk_one ha e he)
  simp only [accRec,List.length_nil]
  omega
 ·have:=key e (chk_one hc e he)
  simp only [choRec,List.length_nil]
  omega
def GrL {α:Type}(e:TypeId) (sz:Nat) (R:α→List Value→Prop) (v:Value) (l:List α) (ν:OH):Prop := ∃ css:List (List Value),css.length=l.length∧(∀ (i:Nat) x cs,l[i]? = some x→css[i]? = some cs→cs.length=sz∧R x cs)∧Grow e sz v l.length css.flatten ν
section
variable {α:Type}{e:TypeId}{sz:Nat}{R R':α→List Value→Prop}{v:Value}{l:List α}{ν:OH}
theorem GrL.nil:GrL e sz R (.slice none 0 0) [] []:=⟨[],rfl,fun i x cs h=>by simp at h,Grow.nil _ _⟩
theorem GrL.le (h:GrL e sz R v l ν) (hR:∀ x cs,R x cs→R' x cs):GrL e sz R' v l ν:=by
 obtain ⟨css,h1,h2,h3⟩:=h
 exact ⟨css,h1,fun i x cs hx hc=>⟨(h2 i x cs hx hc).1,hR _ _ (h2 i x cs hx hc).2⟩,h3⟩
theorem GrL.snoc {x:α}{rx:List Value}{css:List (List Value)}(h1:css.length=l.length) (h2:∀ (i:Nat) y cs,l[i]? = some y→css[i]? = some cs→cs.length=sz∧R y cs) (h:Grow e sz v (l.length+1) (css.flatten++rx) ν) (hl:rx.length=sz) (hx:R x rx):GrL e sz R v (l++[x]) ν:=by
 refine ⟨css++[rx],by simp [h1],fun i y cs hy hc=>?_,by simpa using h⟩
 by_cases hi:i<l.length
 ·rw [List.getElem?_append_left hi] at hy
  rw [List.getElem?_append_left (by omega)] at hc
  exact h2 i y cs hy hc
 ·rw [List.getElem?_append_right (by omega)] at hy hc
  obtain ⟨k1,k2⟩:=List.getElem?_eq_some_iff.1 hy
  have e:i=l.length:=by simp at k1;omega
  subst e
  rw [Nat.sub_self] at hy
  rw [h1,Nat.sub_self] at hc
  simp only [List.getElem?_cons_zero,Option.some.injEq] at hy hc
  subst hy hc
  exact ⟨hl,hx⟩
theorem GrL.sl (h:GrL e sz R v l ν) {G':GH}(hG:∀ b o,(b,o)∈ν→G' b=some o):Sl G' sz R v l:=by
 obtain ⟨css,h1,h2,h3⟩:=h
 exact Grow.sl h3 hG h1 h2
end
def laysSort_ren:Go.Shelf.Ren:=⟨fun|5=>159|7=>184|8=>185|10=>206|11=>207|12=>208|13=>209|14=>210|15=>211|16=>212|17=>213|18=>214|19=>215|20=>216|30=>227|31=>228|32=>229|33=>230|34=>231|35=>166|40=>234|n=>n,fun|0=>0|3=>3|4=>4|5=>5|9=>9|22=>47|23=>47|25=>3|32=>182|35=>230|36=>231|41=>107|44=>135|46=>207|53=>245|57=>218|63=>250|64=>201|n=>n,fun n=>n⟩
theorem laysSort:SlLaysM.n5 Tryz.prog laysSort_ren where
 mixed:=by kernel_rfl
 f5:=⟨"slices.Sort[[]int,int]",by decide,Tryz.func159.trans (congrArg some (by kernel_rfl))⟩
 f7:=⟨"slices.pdqsortOrdered[int]",by decide,Tryz.func184.trans (congrArg some (by kernel_rfl))⟩
 f8:=Tryz.func185.trans (congrArg some (by kernel_rfl))
 f10:=⟨"slices.insertionSortOrdered[int]",by decide,Tryz.func206.trans (congrArg some (by kernel_rfl))⟩
 f11:=⟨"slices.heapSortOrdered[int]",by decide,Tryz.func207.trans (congrArg some (by kernel_rfl))⟩
 f12:=⟨"slices.breakPatternsOrdered[int]",by decide,Tryz.func208.trans (congrArg some (by kernel_rfl))⟩
 f13:=⟨"slices.choosePivotOrdered[int]",by decide,Tryz.func209.trans (congrArg some (by kernel_rfl))⟩
 f14:=⟨"slices.reverseRangeOrdered[int]",by decide,Tryz.func210.trans (congrArg some (by kernel_rfl))⟩
 f15:=⟨"slices.partialInsertionSortOrdered[int]",by decide,Tryz.func211.trans (congrArg some (by kernel_rfl))⟩
 f16:=⟨"cmp.Less[int]",by decide,Tryz.func212.trans (congrArg some (by kernel_rfl))⟩
 f17:=⟨"slices.partitionEqualOrdered[int]",by decide,Tryz.func213.trans (congrArg some (by kernel_rfl))⟩
 f18:=⟨"slices.partitionOrdered[int]",by decide,Tryz.func214.trans (congrArg some (by kernel_rfl))⟩
 f19:=Tryz.func215.trans (congrArg some (by kernel_rfl))
 f20:=Tryz.func216.trans (congrArg some (by kernel_rfl))
 f30:=⟨"slices.siftDownOrdered[int]",by decide,Tryz.func227.trans (congrArg some (by kernel_rfl))⟩
 f31:=Tryz.func228.trans (congrArg some (by kernel_rfl))
 f32:=Tryz.func229.trans (congrArg some (by kernel_rfl))
 f33:=⟨"slices.medianAdjacentOrdered[int]",by decide,Tryz.func230.trans (congrArg some (by kernel_rfl))⟩
 f34:=⟨"slices.medianOrdered[int]",by decide,Tryz.func231.trans (congrArg some (by kernel_rfl))⟩
 f35:=⟨"cmp.isNaN[int]",by decide,Tryz.func166.trans (congrArg some (by kernel_rfl))⟩
 f40:=⟨"slices.order2Ordered[int]",by decide,Tryz.func234.trans (congrArg some (by kernel_rfl))⟩
 t0:=Tryz.underlying0
 a0:=Tryz.isAgg0
 z0:=Tryz.sizeOf0
 v0:=Tryz.zeroValue0
 t3:=Tryz.underlying3
 a3:=Tryz.isAgg3
 z3:=Tryz.sizeOf3
 v3:=Tryz.zeroValue3
 t4:=Tryz.underlying4
 a4:=Tryz.isAgg4
 z4:=Tryz.sizeOf4
 v4:=Tryz.zeroValue4
 t5:=Tryz.underlying5
 a5:=Tryz.isAgg5
 z5:=Tryz.sizeOf5
 v5:=Tryz.zeroValue5
 t9:=Tryz.underlying9
 a9:=Tryz.isAgg9
 z9:=Tryz.sizeOf9
 v9:=Tryz.zeroValue9
 t22:=Tryz.underlying47
 a22:=Tryz.isAgg47
 z22:=Tryz.sizeOf47
 v22:=Tryz.zeroValue47
 t23:=Tryz.underlying47
 a23:=Tryz.isAgg47
 z23:=Tryz.sizeOf47
 v23:=Tryz.zeroValue47
 t25:=Tryz.underlying3
 a25:=Tryz.isAgg3
 z25:=Tryz.sizeOf3
 v25:=Tryz.zeroValue3
 t32:=Tryz.underlying182
 a32:=Tryz.isAgg182
 z32:=Tryz.sizeOf182
 v32:=Tryz.zeroValue182
 t35:=Tryz.underlying230
 a35:=Tryz.isAgg230
 z35:=Tryz.sizeOf230
 v35:=Tryz.zeroValue230
 t36:=Tryz.underlying231
 a36:=Tryz.isAgg231
 z36:=Tryz.sizeOf231
 v36:=Tryz.zeroValue231
 t41:=Tryz.underlying107
 a41:=Tryz.isAgg107
 z41:=Tryz.sizeOf107
 v41:=Tryz.zeroValue107
 t44:=Tryz.underlying135
 a44:=Tryz.isAgg135
 z44:=Tryz.sizeOf135
 v44:=Tryz.zeroValue135
 t46:=Tryz.underlying207
 a46:=Tryz.isAgg207
 z46:=Tryz.sizeOf207
 v46:=Tryz.zeroValue207
 t53:=Tryz.underlying245
 a53:=Tryz.isAgg245
 z53:=Tryz.sizeOf245
 v53:=Tryz.zeroValue245
 t57:=Tryz.underlying218
 a57:=Tryz.isAgg218
 z57:=Tryz.sizeOf218
 v57:=Tryz.zeroValue218
 t63:=Tryz.underlying250
 a63:=Tryz.isAgg250
 z63:=Tryz.sizeOf250
 v63:=Tryz.zeroValue250
 t64:=Tryz.underlying201
 a64:=Tryz.isAgg201
 z64:=Tryz.sizeOf201
 v64:=Tryz.zeroValue201
attribute [local semireducible] Con
theorem Con.ofCallsS {P:Program}{f:FuncId}{args:Array Value}{G:GH}{μ:OH}{Φ:Value→GH→OH→Prop}(h:∀ w,Mem G μ w→Calls P f args w fun e w'=>∃ v,e=.returned v∧∃ G' μ',Step G μ w G' μ' w'∧Φ v G' μ'):Con P f args G μ Φ:=by
 intro w hw
 exact (h w hw).mono fun e w' hq=>by
  obtain ⟨v,rfl,hv⟩:=hq
  exact ⟨v,rfl,hv⟩
section
variable {G:GH}{μ μ':OH}{w:World}{b:Nat}{e:TypeId}
theorem Step.mapS {vs vs':List Value}{f:Array Value→Array Value}(hw:Mem G μ w) (hb:Has μ b vs e) (hf:f vs.toArray=vs'.toArray) (hu:Upd b (.cells vs'.toArray e (0,0)) μ μ'):Step G μ w G μ' (Go.Sort.mapBlock w b f):=by
 have hg:=hw.own _ _ hb
 refine Step.upd hw hu rfl rfl rfl (by simp [Go.Sort.mapBlock]) ?_ (fun c hc=>?_)
 ·simp only [Go.Sort.mapBlock,Array.getElem?_modify,if_true,hg,Option.map_some,Go.Sort.onCells,hf]
 ·simp only [Go.Sort.mapBlock,Array.getElem?_modify]
  rw [if_neg (fun h=>hc h.symm)]
theorem Step.grow (h:Mem G μ w) (os:Array Obj):Step G μ w G μ (Go.Sort.grow w os):=by
 have hold:∀ c,c<w.heap.size→(Go.Sort.grow w os).heap[c]? = w.heap[c]? := fun c hc=>by
  show (w.heap++os)[c]? = _
  rw [Array.getElem?_append_left hc]
 refine ⟨⟨fun c o hc=>?_,fun c o hc=>?_,h.nodup,h.apart⟩,GH.le_refl _,rfl,rfl,rfl,?_,fun c hc _=>hold c hc,fun c o hc=>.inl ⟨o,hc⟩,fun c o hc=>.inl ⟨o,hc⟩⟩
 ·rw [hold c (lt_of_heap (h.g c o hc))];exact h.g c o hc
 ·rw [hold c (lt_of_heap (h.own c o hc))];exact h.own c o hc
 ·show w.heap.size≤(w.heap++os).size
  simp
end
theorem holds_own {G:GH}{μ:OH}{w:World}{b:Nat}{e:TypeId}{zs:List Int}{spare:List Value}(hw:Mem G μ w) (hb:Has μ b (zs.map (Value.int .i64 ·)++spare) e):Go.Sort.Holds (Value.int .i64) w b 0 zs.toArray:=by
 intro j hj
 have hj':j<zs.length:=by simpa using hj
 refine ⟨?_,?_⟩
 ·rw [Nat.zero_add]
  refine Cell.own hb ?_ w hw.sees
  rw [List.getElem?_append_left (by simpa using hj'),List.getElem?_map,List.getElem?_eq_getElem hj']
  simp [hj']
 ·have:=hw.own _ _ hb
  simp [World.frozen?,this]
theorem putCells_own {zs ys:List Int}{spare:List Value}(h:ys.length=zs.length):Go.Sort.putCells (Value.int .i64) 0 ys.toArray (zs.map (Value.int .i64 ·)++spare).toArray=(ys.map (Value.int .i64 ·)++spare).toArray:=by
 apply Array.ext_getElem?
 intro k
 simp only [Go.Sort.putCells,Array.getElem?_mapIdx,List.getElem?_toArray,List.size_toArray,Nat.zero_le,true_and,Nat.zero_add,Nat.sub_zero]
 by_cases hk:k<ys.length
 ·rw [List.getElem?_append_left (by simp;omega),List.getElem?_append_left (by simpa using hk)]
  simp [hk,h ▸ hk]
 ·rw [List.getElem?_append_right (by simp;omega),List.getElem?_append_right (by simp;omega)]
  have hk2:¬ k<zs.length:=by omega
  simp only [List.length_map,h]
  cases spare[k-zs.length]? with
  | none=>rfl
  | some v=>simp only [Option.map_some,hk2,if_false]
def sortL (l:List Int):List Int:=l.mergeSort fun x y=>decide (x≤y)
theorem sortL_perm (l:List Int):(sortL l).Perm l:=List.mergeSort_perm _ _
theorem sortL_le (l:List Int):(sortL l).Pairwise (· ≤ ·):=by
 have:=List.pairwise_mergeSort (le:=fun (x y:Int)=>decide (x≤y)) (fun a b c h1 h2=>by simp only [decide_eq_true_eq] at *;omega) (fun a b=>by simp only [Bool.or_eq_true,decide_eq_true_eq];omega) l
 exact this.imp fun h=>by simpa using h
theorem sort_s {G:GH}{zs:List Int}{b cap:Nat}{e:TypeId}{spare:List Value}(hsz:zs.length<4611686018427387904) :
 Con Tryz.prog 159 #[.slice (some ⟨b,0,none⟩) zs.length cap] G [(b,.cells (zs.map (Value.int .i64 ·)++spare).toArray e (0,0))]
  (fun r G' μ'=>r=.tuple #[]∧G'=G∧μ'=[(b,.cells ((sortL zs).map (Value.int .i64 ·)++spare).toArray e (0,0))]):=by
 refine Con.ofCallsS fun w hw=>?_
 have hb:Has [(b,Obj.cells (zs.map (Value.int .i64 ·)++spare).toArray e (0,0))] b (zs.map (Value.int .i64 ·)++spare) e:=List.mem_cons_self
 refine (AnyM.slices_Sort_int laysSort b 0 cap zs w (holds_own hw hb) (lt_of_heap (hw.own _ _ hb)) hsz).mono ?_
 rintro _ w' ⟨rfl,n,os,rfl⟩
 have s1:=Step.drew hw n
 have s2:=Step.mapS (f:=Go.Sort.putCells (Value.int .i64) 0 (sortL zs).toArray) s1.mem hb (putCells_own (sortL_perm zs).length_eq) (.here _ _)
 exact ⟨_,rfl,G,_,(s1.trans s2).trans (Step.grow s2.mem os),rfl,rfl,rfl⟩
theorem sort0_s {G:GH}{p:Option Addr}{cap:Nat}:Con Tryz.prog 159 #[.slice p 0 cap] G [] (Just (.tuple #[]) G):=by
 refine Con.ofCallsS fun w hw=>?_
 refine (AnyM.slices_Sort_int_none laysSort p cap w).mono ?_
 rintro _ w' ⟨rfl,rfl⟩
 exact ⟨_,rfl,G,[],Step.refl hw,rfl,rfl,rfl⟩
end Go.Proofs.YtpemabgfmnhhnaaGreatDoor
/-
  Majorities, in plain Lean: distinct members, counted in two ways; two majorities have a member in common.
-/
namespace Go.Proofs.YtpemabgfmnhhnaaGreatDoor
open Go.Vx Go.ChangeShapes Go.WideShapes Go.ChangeAt Go.RowKit
theorem perm_of_mem {l l':List Int}(h:l.Nodup) (h':l'.Nodup) (hm:∀ x,x∈l↔x∈l'):l.Perm l':=by
 rw [List.perm_iff_count]
 intro a
 rw [h.count,h'.count]
 simp only [hm a]
def once (l:List Int):List Int:=Lib.compact (sortL l)
end Go.Proofs.YtpemabgfmnhhnaaGreatDoor
