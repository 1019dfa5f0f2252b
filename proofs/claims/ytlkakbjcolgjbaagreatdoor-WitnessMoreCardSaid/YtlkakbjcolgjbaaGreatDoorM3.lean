/-
  The references 22, 23, 25: Without, Last, Revs.
-/
import Derived.Test.YtlkakbjcolgjbaaGreatDoorM2
import Derived.Test.YtlkakbjcolgjbaaGreatDoorM1
import Derived.Shelf.SortM.Plain
import Derived.Shelf.SortM.SortNone
set_option linter.unusedSimpArgs false
set_option linter.unusedVariables false
set_option linter.unusedSectionVars false
namespace Go.Proofs.YtlkakbjcolgjbaaGreatDoor
open Go.Vx Go.ChangeShapes Go.WideShapes Go.ChangeAt Go.RowKit
theorem refWithout_s {G:GH}{l:List Pr}{sv:Value}(key:ByteArray) (hs:Prs G sv l) (hn:l.length≤200) (hz:Sized l) (hkz:key.size≤200):Con Tryz.prog 55 #[sv,.string key] G [] (fun r G' μ'=>GH.le G G'∧μ'=[]∧Prs G' r (l.filter (fun x=>decide (ksP x≠kn key)))):=by
 obtain ⟨A,c,rfl,hlc,hcm,hsome,hcp⟩:=rowOpen hs
 simp only [maxLen] at hcm
 (refine v_enter Tryz.func55 rfl Tryz.ntmps55 rfl ?_;intro B _)
 repeat' (first|apply v_seq|apply v_region|apply v_nil|apply v_block|apply v_pure;(case hop=>(apply p_assign<;>rfl));(case hd=>rfl)|fail)
 refine v_loop [6,0,5,1] (fun us G' μ'=>G'=G∧∃ (k:Nat) (av:Value),k≤l.length∧us=[Value.int .i64 (k:Nat),.slice A l.length c,av,.string key]∧GrP av ((l.take k).filter (fun x=>decide (ksP x≠kn key))) μ') (fun us=>l.length-(headI us).toNat) rfl ⟨rfl,0,.slice none 0 0,by omega,rfl,Grow.nil _ _⟩ ?_
 rintro us G' ν ⟨hG',k,av,hk,rfl,hga⟩
 subst hG'
 have hwl:((l.take k).filter (fun x=>decide (ksP x≠kn key))).length≤k:=Nat.le_trans (List.length_filter_le _ _) (by rw [List.length_take];omega)
 by_cases hlt:k<l.length
 ·have e1:((k:Nat):Int).toNat=k:=by omega
  have hA:=hsome (by omega)
  have hck:=hcp k hlt
  have hxz:=(hz _ (List.getElem_mem hlt)).1
  by_cases he:(l[k]).key=key
  ·have ew:(l.take (k+1)).filter (fun x=>decide (ksP x≠kn key))=(l.take k).filter (fun x=>decide (ksP x≠kn key)):=by
    rw [List.take_succ_eq_append_getElem hlt,List.filter_append,List.filter_cons_of_neg (by simp [ksP,he])]
    simp
   generalize l[k]=x at *
   obtain ⟨xk,xv,xr⟩:=x
   have hc0:=hck.cell (j:=0) rfl
   simp only at he
   repeat' (first|apply v_seq|apply v_region|apply v_nil|apply v_skip|apply v_block|apply v_blk|apply v_pure;(case hop=>first|apply p_move<;>rfl|apply p_lt<;>rfl|apply p_assign<;>rfl|apply p_lenSlice<;>rfl|apply p_fieldAddr<;>rfl|apply p_add;(case hx|hy=>rfl);(case h=>omega)|apply p_indexAddrS;(case hx|hi=>rfl);(case h0|h=>omega);(case hA=>assumption)|apply p_neS<;>rfl|fail);(case hd=>rfl)|apply v_cond;(case hc=>rfl);all_goals (intro h;(try simp only [reduceCtorEq,zzz] at h);first|(exfalso;omega)|(exfalso;exact h (by with_reducible assumption))|skip)|apply v_read;(case hop=>(apply r_load1;rfl;exact Cell.frozen hc0));(case hd=>rfl)|fail)
   all_goals first
    |(exfalso;exact absurd he (by assumption))
    | exact v_again rfl ⟨rfl,k+1,_,by omega,rfl,by rw [ew];exact hga⟩ (by simp [headI];omega)
  ·have ew:(l.take (k+1)).filter (fun x=>decide (ksP x≠kn key))=(l.take k).filter (fun x=>decide (ksP x≠kn key))++[l[k]]:=by
    rw [List.take_succ_eq_append_getElem hlt,List.filter_append,List.filter_cons_of_pos (by simp only [decide_eq_true_eq];intro h;exact he ((kn_inj hxz hkz).1 h))]
    simp
   generalize l[k]=x at *
   obtain ⟨xk,xv,xr⟩:=x
   have hc0:=hck.cell (j:=0) rfl
   simp only at he
   repeat' (first|apply v_seq|apply v_region|apply v_nil|apply v_skip|apply v_block|apply v_pure;(case hop=>first|apply p_move<;>rfl|apply p_lt<;>rfl|apply p_lenSlice<;>rfl|apply p_fieldAddr<;>rfl|apply p_indexAddrS;(case hx|hi=>rfl);(case h0|h=>omega);(case hA=>assumption)|apply p_neS<;>rfl|fail);(case hd=>rfl)|apply v_cond;(case hc=>rfl);all_goals (intro h;(try simp only [reduceCtorEq,zzz] at h);first|(exfalso;omega)|(exfalso;revert h;rw [imp_false];with_reducible assumption)|skip)|apply v_read;(case hop=>(apply r_load1;rfl;exact Cell.frozen hc0));(case hd=>rfl)|apply v_read;(case hop=>(apply r_loadN;rfl;exact CellsAt.frozen hck;rfl));(case hd=>rfl)|apply v_buildSlice;(case hz|hi=>rfl);(case hv=>(simp only [List.map_cons,List.map_nil];repeat (first|with_reducible exact evs_nil|apply evs_cons;(case h1=>rfl))));(case hp=>(apply pk_cons;(case hc|hs=>rfl);(case h=>(with_reducible exact pk_nil));(case he=>((repeat (first|with_reducible exact ap_nil|apply ap_cons));done))));(case hb|hd=>rfl);intro b|fail)
   all_goals first
    |(exfalso;exact absurd (by assumption) he)
    | skip
   have hpm:=List.perm_append_comm (l₁:=([(b,.cells (Pr.cells ⟨xk,xv,xr⟩).toArray 94 (0,0))]:OH)) (l₂:=ν)
   refine v_append (e:=94) (agg:=true) (sz:=3) (bytes:=40) (zero:=zP) rfl (by omega) rfl rfl hga hpm (m':=1) (us:=(Pr.cells ⟨xk,xv,xr⟩)) (Src.own (e:=94) (List.Mem.head _) rfl) rfl (by omega) (by simp only [maxLen];omega) rfl fun v' ν' hg'=>?_
   have hga':=GrP.snoc hg'
   refine v_drop (ν:=ν') (List.sublist_append_left _ _) ?_
   repeat' (first|apply v_region|apply v_nil|apply v_blk|apply v_pure;(case hop=>first|apply p_move<;>rfl|apply p_assign<;>rfl|apply p_add;(case hx|hy=>rfl);(case h=>omega)|fail);(case hd=>rfl)|fail)
   exact v_again rfl ⟨rfl,k+1,_,by omega,rfl,by rw [ew];exact hga'⟩ (by simp [headI];omega)
 ·obtain rfl:k=l.length:=by omega
  rw [List.take_length] at hga
  repeat' (first|apply v_seq|apply v_region|apply v_nil|apply v_exit;(case hp=>rfl)|apply v_pure;(case hop=>first|apply p_move<;>rfl|apply p_lt<;>rfl|apply p_assign<;>rfl|apply p_lenSlice<;>rfl|fail);(case hd=>rfl)|apply v_cond;(case hc=>rfl);all_goals (intro h;(try simp only [reduceCtorEq,zzz] at h);try (exfalso;omega))|fail)
  refine v_perm (ν:=ν++[]) (by rw [List.append_nil]) ?_
  refine v_frz ν (PickA.here _) ?_
  intro G2 hle2 hG2
  refine v_ret [] (outsA1 rfl rfl) (List.nil_sublist _) ⟨hle2,rfl,row_of_grow Pr.len hga hG2⟩
def lastS (l:List Ss) (n:Int):Int×An:=if hitG ksS l n=true then ((sesAt l n).seq,(sesAt l n).last) else (0,zA)
theorem refLast_s {G:GH}{l:List Ss}{sv:Value}(n:Int) (hs:Sss G sv l) (hr:RiseW ksS l):Con Tryz.prog 20 #[sv,.int .i64 n] G [] (Just (.tuple [.int .i64 (lastS l n).1,.agg (lastS l n).2.cells.toArray].toArray) G):=by
 obtain ⟨A,c,rfl,hlc,hcm,hsome,hcp⟩:=rowOpen hs
 simp only [maxLen] at hcm
 have hrg:=riseG_pw.2 hr
 apply Con.just
 (refine v_enter Tryz.func20 rfl Tryz.ntmps20 rfl ?_;intro B _)
 repeat' (first|apply v_alloc (d:=5);(case hz|hd=>rfl);intro b5|apply v_seq|apply v_region|apply v_nil|apply v_block|apply v_pure;(case hop=>(apply p_assign<;>rfl));(case hd=>rfl)|fail)
 refine v_loop [6,0,1,5] (fun us G' μ'=>G'=G∧μ'=[(b5,.cells [.int .i64 0,.int .i64 0,.int .i64 0,.bool false,.string ByteArray.empty,.int .i64 0].toArray 28 (0,0))]∧∃ k:Nat,k≤l.length∧us=[Value.int .i64 (k:Nat),.slice A l.length c,.int .i64 n,.pointer (some ⟨b5,0,none⟩)]∧∀ i (h:i<l.length),i<k→l[i].client≠n) (fun us=>l.length-(headI us).toNat) rfl ⟨rfl,rfl,0,by omega,rfl,by omega⟩ ?_
 rintro us G' _ ⟨rfl,rfl,k,hk,rfl,hno⟩
 by_cases hlt:k<l.length
 ·have e1:((k:Nat):Int).toNat=k:=by omega
  have hA:=hsome (by omega)
  have hck:=hcp k hlt
  have hyes:(l[k]).client=n→lastS l n=((l[k]).seq,(l[k]).last):=fun h=>by
   have hp:placeG ksS l n=k:=placeG_eq hk (fun m hm hmk=>by have:=hrg m k hlt hmk;rw [← h];exact this) (fun m hm hkm=>by
    by_cases e:m=k
    ·subst e;show ¬ (l[m]).client<n;omega
    ·have:=hrg k m hm (by omega);rw [← h];simp only [ksS] at this ⊢;omega)
   have hh:hitG ksS l n=true:=by
    unfold hitG
    rw [dif_pos (by rw [hp];exact hlt)]
    refine decide_eq_true ?_
    have:l[placeG ksS l n]'(by rw [hp];exact hlt)=l[k]:=by congr 1
    rw [this,← h]
   have hs:sesAt l n=l[k]:=by
    unfold sesAt
    rw [dif_pos hh]
    congr 1
   unfold lastS
   rw [if_pos hh,hs]
  have hnx:(l[k]).client≠n→∀ i (h:i<l.length),i<k+1→l[i].client≠n:=fun a2 i hi hik=>by
   by_cases e:i=k
   ·subst e;exact a2
   ·exact hno i hi (by omega)
  generalize l[k]=x at *
  obtain ⟨xc,xs,⟨lc,ls,le,lf,lv,lr⟩⟩:=x
  have hl:CellsG G' (((adr A).add (k*8)).add 2) (An.cells ⟨lc,ls,le,lf,lv,lr⟩):=lastAt hck
  have hc0:=hck.cell (j:=0) rfl
  have hc1:=hck.cell (j:=1) rfl
  simp only at hyes hnx
  by_cases he:xc=n
  ·rw [hyes he]
   repeat' (first|apply v_seq|apply v_region|apply v_nil|apply v_skip|apply v_block|apply v_pure;(case hop=>first|apply p_move<;>rfl|apply p_eq<;>rfl|apply p_lt<;>rfl|apply p_lenSlice<;>rfl|apply p_fieldAddr<;>rfl|apply p_indexAddrS;(case hx|hi=>rfl);(case h0|h=>omega);(case hA=>assumption)|fail);(case hd=>rfl)|apply v_cond;(case hc=>rfl);all_goals (intro h;(try simp only [reduceCtorEq,zzz] at h);try (exfalso;omega))|apply v_read;(case hop=>(apply r_load1;rfl;exact Cell.frozen hc0));(case hd=>rfl)|fail)
   refine d_start [] (by kernel_rfl) (by kernel_rfl) (by kernel_rfl) (by intro e he;(simp at he ⊢;try omega)) ?_
   all_goals (apply dtm 0;(case hi|hx=>rfl);(case hq=>kernel_rfl);apply dtm 1;(case hi|hx=>rfl);(case hq=>kernel_rfl))
   all_goals (apply dtk 2;(case hi=>rfl);(case hop=>(apply prd;apply p_indexAddrS;(case hx|hi=>rfl);(case h0|h=>omega);(case hA=>assumption)));(case hq=>kernel_rfl);apply dtk 3;(case hi=>rfl);(case hop=>(apply prd;apply p_fieldAddr<;>rfl));(case hq=>kernel_rfl))
   all_goals (apply dtk 4;(case hi=>rfl);(case hop=>((apply r_load1;rfl;exact Cell.frozen hc1)));(case hq=>kernel_rfl);apply dtm 5;(case hi|hx=>rfl);(case hq=>kernel_rfl))
   all_goals (apply dtm 6;(case hi|hx=>rfl);(case hq=>kernel_rfl);apply dtk 7;(case hi=>rfl);(case hop=>(apply prd;apply p_indexAddrS;(case hx|hi=>rfl);(case h0|h=>omega);(case hA=>assumption)));(case hq=>kernel_rfl))
   all_goals (apply dtk 8;(case hi=>rfl);(case hop=>(apply prd;apply p_fieldAddr<;>rfl));(case hq=>kernel_rfl);apply dtk 9;(case hi=>rfl);(case hop=>((apply r_loadN;rfl;exact CellsAt.frozen hl;rfl)));(case hq=>kernel_rfl))
   all_goals (apply dta 10;(case hi|hx=>rfl);(case hq=>kernel_rfl))
   all_goals (apply d_store 11;(case hi=>rfl);(case hr=>kernel_rfl);(case hL=>infer_instance);(case hp|hx|hc|hsz|h1=>rfl);(case hb=>repeat exact mhd _);(case hfit=>exact nle rfl);(case hov=>((repeat (first|with_reducible exact ov_nil|apply ov_cons));done));(case hu=>repeat (exact Upd.here _ _));(case hν'=>intro e he;(cases he;done)))
   all_goals (apply d_done;(case hr=>kernel_rfl))
   repeat' (fail)
   refine v_retM [] (outsM_tc (sz1:=6) (vs1:=An.cells ⟨lc,ls,le,lf,lv,lr⟩) (e1:=28) rfl rfl rfl (by repeat (exact mhd _)) rfl) (List.nil_sublist _) ⟨rfl,rfl⟩
  ·repeat' (first|apply v_seq|apply v_region|apply v_nil|apply v_skip|apply v_block|apply v_blk|apply v_pure;(case hop=>first|apply p_move<;>rfl|apply p_eq<;>rfl|apply p_lt<;>rfl|apply p_assign<;>rfl|apply p_lenSlice<;>rfl|apply p_fieldAddr<;>rfl|apply p_add;(case hx|hy=>rfl);(case h=>omega)|apply p_indexAddrS;(case hx|hi=>rfl);(case h0|h=>omega);(case hA=>assumption)|fail);(case hd=>rfl)|apply v_cond;(case hc=>rfl);all_goals (intro h;(try simp only [reduceCtorEq,zzz] at h);try (exfalso;omega))|apply v_read;(case hop=>(apply r_load1;rfl;exact Cell.frozen hc0));(case hd=>rfl)|fail)
   refine v_again rfl ⟨rfl,rfl,k+1,by omega,rfl,hnx he⟩ (by simp [headI];omega)
 ·have hh:hitG ksS l n=false:=by
   cases hh:hitG ksS l n with
   | false=>rfl
   | true =>
    obtain ⟨x,hx,e⟩:=(hit_iff hr).1 hh
    obtain ⟨i,hi,rfl⟩:=List.getElem_of_mem hx
    exact absurd e (hno i hi (by omega))
  have hl:lastS l n=(0,zA):=by unfold lastS;rw [hh,if_neg (by simp)]
  rw [hl]
  repeat' (first|apply v_seq|apply v_region|apply v_nil|apply v_exit;(case hp=>rfl)|apply v_pure;(case hop=>first|apply p_move<;>rfl|apply p_lt<;>rfl|apply p_assign<;>rfl|apply p_lenSlice<;>rfl|apply p_build;(case hz=>rfl);(case hv=>(simp only [List.map_cons,List.map_nil];repeat (with_reducible exact evs_nil)));(case hb=>(apply bldL;repeat (exact bld_nil)))|fail);(case hd=>rfl)|apply v_cond;(case hc=>rfl);all_goals (intro h;(try simp only [reduceCtorEq,zzz] at h);try (exfalso;omega))|apply v_store;(case hp|hx|hc|hsz|h1=>rfl);(case hb=>repeat exact mhd _);(case hfit=>exact nle rfl);(case hov=>((repeat (first|with_reducible exact ov_nil|apply ov_cons));done));(case hu=>repeat (exact Upd.here _ _))|fail)
  refine v_retM [] (outsM_tc (sz1:=6) (vs1:=zA.cells) (e1:=28) rfl rfl rfl (by repeat (exact mhd _)) rfl) (List.nil_sublist _) ⟨rfl,rfl⟩
def revsS (s:St) (z r:Int):St:=⟨z,s.pairs.map (revOf r),s.sess⟩
theorem refRevs_s {G:GH}{s:St}{v:Value}(z r:Int) (hs:StV G s v) (hn:s.pairs.length≤200):Con Tryz.prog 40 #[v,.int .i64 z,.int .i64 r] G [] (fun r' G' μ'=>GH.le G G'∧μ'=[]∧StV G' (revsS s z r) r'):=by
 obtain ⟨A,c,A',c',rfl,hp,hss⟩:=id hs
 obtain ⟨schema,lp,ls⟩:=s
 unfold revsS
 simp only at *
 obtain ⟨B0,e0,e,hlc,hcm,hsome,hcp⟩:=rowOpen hp
 cases e
 simp only [maxLen] at hcm
 (refine v_enter Tryz.func40 rfl Tryz.ntmps40 rfl ?_;intro B _)
 repeat' (first|apply v_box (zs:=[.int .i64 schema,.slice A lp.length c,.slice A' ls.length c']);(case hx|hz|hd=>rfl);intro b3|apply v_alloc (d:=6);(case hz|hd=>rfl);intro b6|apply v_alloc (d:=7);(case hz|hd=>rfl);intro b7|apply v_seq|apply v_region|apply v_nil|apply v_block|apply v_pure;(case hop=>first|apply p_move<;>rfl|apply p_assign<;>rfl|apply p_fieldAddrB<;>rfl|apply p_build;(case hz=>rfl);(case hv=>(simp only [List.map_cons,List.map_nil];repeat (first|with_reducible exact evs_nil|apply evs_cons;(case h1=>rfl))));(case hb=>(apply bldL;repeat (first|exact bld_nil|apply bld_cons;(case hpf|hc|hs|hl=>rfl);(case ho=>((repeat (first|with_reducible exact ov_nil|apply ov_cons));done))))));(case hd=>rfl)|apply v_read;(case hop=>(apply r_load1;rfl;(apply Cell.own;(case h=>repeat first|exact mhd _|apply mtl);rfl)));(case hd=>rfl)|apply v_store;(case hp|hx|hc|hsz|h1=>rfl);(case hb=>repeat exact mhd _);(case hfit=>exact nle rfl);(case hov=>((repeat (first|with_reducible exact ov_nil|apply ov_cons));done));(case hu=>repeat (exact Upd.here _ _))|fail)
 refine v_perm (ν:=[(b7,.cells [.int .i64 z,.slice none 0 0,.slice A' ls.length c'].toArray 39 (0,0)),(b6,.cells [.int .i64 0,.slice none 0 0,.slice none 0 0].toArray 39 (0,0)),(b3,.cells [.int .i64 schema,.slice A lp.length c,.slice A' ls.length c'].toArray 39 (0,0))]) (by apply perm_of_count;intro p;simp only [List.append_eq,List.countP_append,List.countP_cons,List.countP_nil,Nat.zero_add,Nat.add_zero];try ac_rfl) ?_
 refine v_loop [8,3,7,2,6] (fun us G' μ'=>G'=G∧∃ (k:Nat) (A2:Option Addr) (c2:Nat) (ν:OH),k≤lp.length∧us=[Value.int .i64 (k:Nat),.pointer (some ⟨b3,0,none⟩),.pointer (some ⟨b7,0,none⟩),.int .i64 r,.pointer (some ⟨b6,0,none⟩)]∧μ'=(b7,.cells [.int .i64 z,.slice A2 k c2,.slice A' ls.length c'].toArray 39 (0,0))::(b6,.cells [.int .i64 0,.slice none 0 0,.slice none 0 0].toArray 39 (0,0))::(b3,.cells [.int .i64 schema,.slice A lp.length c,.slice A' ls.length c'].toArray 39 (0,0))::ν∧GrP (.slice A2 k c2) ((lp.take k).map (revOf r)) ν) (fun us=>lp.length-(headI us).toNat) rfl ⟨rfl,0,none,0,[],by omega,rfl,rfl,Grow.nil _ _⟩ ?_
 rintro us G' _ ⟨hG',k,A2,c2,ν,hk,rfl,rfl,hga⟩
 subst hG'
 have hwl:((lp.take k).map (revOf r)).length=k:=by rw [List.length_map,List.length_take];omega
 by_cases hlt:k<lp.length
 ·have e1:((k:Nat):Int).toNat=k:=by omega
  have hA:=hsome (by omega)
  have hck:=hcp k hlt
  have ew:(lp.take (k+1)).map (revOf r)=(lp.take k).map (revOf r)++[revOf r lp[k]]:=by
   rw [List.take_succ_eq_append_getElem hlt,List.map_append];rfl
  generalize lp[k]=x at *
  obtain ⟨xk,xv,xr⟩:=x
  repeat' (first|apply v_alloc (d:=9);(case hz|hd=>rfl);intro b9|apply v_read;(case hop=>(apply r_loadNo;(case hx=>rfl);(case h=>repeat (exact mhd _));(case hd|hn=>rfl)));(case hd=>rfl)|apply v_seq|apply v_region|apply v_nil|apply v_skip|apply v_block|apply v_pure;(case hop=>first|apply p_move<;>rfl|apply p_lt<;>rfl|apply p_lenSlice<;>rfl|apply p_fieldAddrB<;>rfl|apply p_indexAddrS;(case hx|hi=>rfl);(case h0|h=>omega);(case hA=>assumption)|fail);(case hd=>rfl)|apply v_cond;(case hc=>rfl);all_goals (intro h;(try simp only [reduceCtorEq,zzz] at h);try (exfalso;omega))|apply v_read;(case hop=>(apply r_loadN;rfl;exact CellsAt.frozen hck;rfl));(case hd=>rfl)|apply v_read;(case hop=>(apply r_load1;rfl;(apply Cell.own;(case h=>repeat first|exact mhd _|apply mtl);rfl)));(case hd=>rfl)|apply v_buildSlice;(case hz|hi=>rfl);(case hv=>(simp only [List.map_cons,List.map_nil];repeat (first|with_reducible exact evs_nil|apply evs_cons;(case h1=>rfl))));(case hp=>(apply pk_cons;(case hc|hs=>rfl);(case h=>(with_reducible exact pk_nil));(case he=>(rfl))));(case hb|hd=>rfl);intro b|apply v_store;(case hp|hx|hc|hsz|h1=>rfl);(case hb=>repeat exact mhd _);(case hfit=>exact nle rfl);(case hov=>((repeat (first|with_reducible exact ov_nil|apply ov_cons));done));(case hu=>repeat (exact Upd.here _ _))|fail)
  have hpm:=List.perm_append_comm (l₁:=([(b,.cells (Pr.cells ⟨xk,xv,r⟩).toArray 94 (0,0)),(b9,.cells (Pr.cells ⟨xk,xv,r⟩).toArray 94 (0,0)),(b7,.cells [.int .i64 z,.slice A2 k c2,.slice A' ls.length c'].toArray 39 (0,0)),(b6,.cells [.int .i64 0,.slice none 0 0,.slice none 0 0].toArray 39 (0,0)),(b3,.cells [.int .i64 schema,.slice A lp.length c,.slice A' ls.length c'].toArray 39 (0,0))]:OH)) (l₂:=ν)
  refine v_append (e:=94) (agg:=true) (sz:=3) (bytes:=40) (zero:=zP) rfl (by omega) rfl rfl (m:=k) (by unfold GrP at hga;rw [hwl] at hga;exact hga) hpm (m':=1) (us:=(Pr.cells ⟨xk,xv,r⟩)) (Src.own (e:=94) (List.Mem.head _) rfl) rfl (by omega) (by simp only [maxLen];omega) rfl fun v' ν' hg'=>?_
  have hga':GrP v' ((lp.take (k+1)).map (revOf r)) ν':=by rw [ew];exact GrP.snoc (a:=⟨xk,xv,r⟩) (by rw [hwl];exact hg')
  have hwl':((lp.take (k+1)).map (revOf r)).length=k+1:=by rw [List.length_map,List.length_take];omega
  obtain ⟨A3,c3,e3,-,-⟩:=id hga'.shape
  rw [hwl'] at e3
  subst e3
  refine v_perm (List.perm_append_comm (l₁:=ν')) ?_
  refine v_drop (ν:=[(b7,.cells [.int .i64 z,.slice A2 k c2,.slice A' ls.length c'].toArray 39 (0,0)),(b6,.cells [.int .i64 0,.slice none 0 0,.slice none 0 0].toArray 39 (0,0)),(b3,.cells [.int .i64 schema,.slice A lp.length c,.slice A' ls.length c'].toArray 39 (0,0))]++ν') (List.Sublist.cons _ (List.Sublist.cons _ (List.Sublist.refl _))) ?_
  repeat' (first|apply v_region|apply v_nil|apply v_blk|apply v_pure;(case hop=>first|apply p_move<;>rfl|apply p_assign<;>rfl|apply p_fieldAddrB<;>rfl|apply p_add;(case hx|hy=>rfl);(case h=>omega)|fail);(case hd=>rfl)|apply v_store;(case hp|hx|hc|hsz|h1=>rfl);(case hb=>repeat exact mhd _);(case hfit=>exact nle rfl);(case hov=>((repeat (first|with_reducible exact ov_nil|apply ov_cons));done));(case hu=>repeat (exact Upd.here _ _))|fail)
  exact v_again rfl ⟨rfl,k+1,A3,c3,ν',by omega,rfl,rfl,hga'⟩ (by simp [headI];omega)
 ·obtain rfl:k=lp.length:=by omega
  rw [List.take_length] at hga
  have hl2:(lp.map (revOf r)).length=lp.length:=List.length_map ..
  repeat' (first|apply v_seq|apply v_region|apply v_nil|apply v_exit;(case hp=>rfl)|apply v_pure;(case hop=>first|apply p_move<;>rfl|apply p_lt<;>rfl|apply p_lenSlice<;>rfl|apply p_fieldAddrB<;>rfl|fail);(case hd=>rfl)|apply v_cond;(case hc=>rfl);all_goals (intro h;(try simp only [reduceCtorEq,zzz] at h);try (exfalso;omega))|apply v_read;(case hop=>first|apply r_loadNo;(case hx=>rfl);(case h=>repeat exact mhd _);(case hd=>repeat first|with_reducible exact dt_nil|apply dt_here);(case hn=>rfl)|apply r_load1;rfl;(apply Cell.own;(case h=>repeat first|exact mhd _|apply mtl);rfl)|fail);(case hd=>rfl)|apply v_store;(case hp|hx|hc|hsz|h1=>rfl);(case hb=>repeat first|exact mhd _|apply mtl);(case hfit=>exact nle rfl);(case hov=>((repeat (first|with_reducible exact ov_nil|apply ov_cons));done));(case hu=>repeat first|exact Upd.here _ _|apply Upd.there)|fail)
  have hpm:=List.perm_append_comm (l₁:=([(b7,.cells [.int .i64 z,.slice A2 lp.length c2,.slice A' ls.length c'].toArray 39 (0,0)),(b6,.cells [.int .i64 z,.slice A2 lp.length c2,.slice A' ls.length c'].toArray 39 (0,0)),(b3,.cells [.int .i64 schema,.slice A lp.length c,.slice A' ls.length c'].toArray 39 (0,0))]:OH)) (l₂:=ν)
  refine v_perm hpm ?_
  refine v_frz ν (PickA.here _) ?_
  intro G2 hle2 hG2
  have hp2:=row_of_grow Pr.len hga hG2
  refine v_retM [] (outsM_cell (sz:=3) (vs:=[.int .i64 z,.slice A2 lp.length c2,.slice A' ls.length c']) (e:=39) rfl rfl (by repeat (first|exact mhd _|apply mtl)) rfl) (List.nil_sublist _) ⟨hle2,rfl,A2,c2,A',c',by simp only [hl2],by rw [← hl2] at hp2;exact hp2,hss.mono hle2⟩
def prR (z:Int) (f:Pr):Int:=if z=2 then nextR f.rev else 0
noncomputable def doR (z:Int) (l:List Pr) (c:Cm):List Pr×An :=
 if c.kind=2 then (if hitG ksP l (kn c.key)=false∧64≤l.length then (l,{ ans0 c with err:=11 }) else (withG ksP l ⟨c.key,c.val,prR z (findP l (kn c.key))⟩,{ ans0 c with found:=hitG ksP l (kn c.key),val:=(findP l (kn c.key)).val }))
 else if c.kind=4 then (l.filter (fun x=>decide (ksP x≠kn c.key)),{ ans0 c with found:=hitG ksP l (kn c.key),val:=(findP l (kn c.key)).val })
 else if c.kind=5 then (if hitG ksP l (kn c.key)=false then (l,{ ans0 c with err:=10 }) else if (findP l (kn c.key)).val=c.old then (withG ksP l ⟨c.key,c.val,prR z (findP l (kn c.key))⟩,{ ans0 c with found:=true,val:=(findP l (kn c.key)).val,rev:=prR z (findP l (kn c.key)) }) else (l,{ ans0 c with err:=15,found:=true,val:=(findP l (kn c.key)).val,rev:=(findP l (kn c.key)).rev }))
 else (l,{ ans0 c with found:=hitG ksP l (kn c.key),val:=(findP l (kn c.key)).val })
theorem roomB_iff {l:List Pr}{n:Int}:roomB l n=true↔¬ (hitG ksP l n=false∧64≤l.length):=by
 unfold roomB
 cases hitG ksP l n<;>simp
theorem doR_eq {z:Int}{l:List Pr}(c:Cm) (hz:z=1∨z=2) (hk:2≤c.kind∧c.kind≤5) (h5:c.kind=5→z=2):doS z l c=doR z l c:=by
 have hroom:=roomB_iff (l:=l) (n:=kn c.key)
 unfold doS doR prR
 rcases hz with rfl|rfl
 ·rw [if_pos rfl]
  unfold doOne
  by_cases h2:c.kind=2
  ·rw [if_pos h2,if_pos h2]
   by_cases hr:roomB l (kn c.key)=true
   ·rw [if_pos hr,if_neg (hroom.1 hr)]
    simp
   ·rw [if_neg hr,if_pos (Classical.not_not.1 (fun h=>hr (hroom.2 h)))]
  ·rw [if_neg h2,if_neg h2]
   by_cases h3:c.kind=3
   ·rw [if_pos h3,if_neg (by omega),if_neg (by omega)]
   ·by_cases h4:c.kind=4
    ·rw [if_neg h3,if_pos h4,if_pos h4]
    ·exact absurd (h5 (by omega)) (by omega)
 ·rw [if_neg (by omega)]
  unfold doTwo
  by_cases h5:c.kind=5
  ·rw [if_pos h5,if_neg (by omega),if_neg (by omega),if_pos h5]
   unfold casP
   simp
  ·rw [if_neg h5]
   by_cases h2:c.kind=2
   ·rw [if_pos h2]
    by_cases hr:roomB l (kn c.key)=true
    ·have e:doOne l c=(withG ksP l ⟨c.key,c.val,0⟩,{ ans0 c with found:=hitG ksP l (kn c.key),val:=(findP l (kn c.key)).val }):=by
      unfold doOne;rw [if_pos h2,if_pos hr]
     rw [e,if_pos ⟨h2,rfl⟩,if_neg (hroom.1 hr)]
     simp only
     rw [withG_twice (by rfl)]
     simp
    ·have e:doOne l c=(l,{ ans0 c with err:=11 }):=by
      unfold doOne;rw [if_pos h2,if_neg hr]
     rw [e,if_neg (fun h=>absurd h.2 (by simp)),if_pos (Classical.not_not.1 (fun h=>hr (hroom.2 h)))]
   ·rw [if_neg (fun h=>h2 h.1),if_neg h2]
    unfold doOne
    rw [if_neg h2]
    by_cases h3:c.kind=3
    ·rw [if_pos h3,if_neg (by omega),if_neg h5]
    ·rw [if_neg h3,if_pos (by omega),if_pos (by omega)]
abbrev DoPost (G:GH) (o:List Pr×An):Value→GH→OH→Prop:=fun r G' μ'=>GH.le G G'∧μ'=[]∧∃ v',r=.tuple [v',.agg o.2.cells.toArray].toArray∧Prs G' v' o.1
theorem doN1 {G:GH}{l:List Pr}{A:Option Addr}{c:Nat}(kind client seq:Int) (key val old:ByteArray) (node:Int) (hs:Prs G (.slice A l.length c) l) (hr:RiseW ksP l) (hz:Sized l) (hn:l.length≤200) (hkz:key.size≤200) (hk:2≤kind∧kind≤5) (h5:kind≠5)
 (qp:Con Tryz.prog 53 #[.slice A l.length c,.string key] G [] (Just (.int .i64 (-1)) G)) :
 Con Tryz.prog 41 #[.int .i64 1,.slice A l.length c,.agg (Cm.cells ⟨kind,client,seq,key,val,old,node⟩).toArray] G [] (DoPost G (if kind=2 then (if 64≤l.length then (l,⟨client,seq,11,false,ByteArray.empty,0⟩) else (withG ksP l ⟨key,val,0⟩,⟨client,seq,0,false,ByteArray.empty,0⟩)) else if kind=4 then (l.filter (fun x=>decide (ksP x≠kn key)),⟨client,seq,0,false,ByteArray.empty,0⟩) else if kind=5 then (l,⟨client,seq,10,false,ByteArray.empty,0⟩) else (l,⟨client,seq,0,false,ByteArray.empty,0⟩):List Pr×An)):=by
 obtain ⟨B0,e0,e,hlc,hcm,hsome,hcp⟩:=rowOpen hs
 cases e
 simp only [maxLen] at hcm
 have qw:=refPWith_s ⟨key,val,0⟩ hs hr hn hz hkz
 have qo:=refWithout_s key hs hn hz hkz
 have hdf:dec ((0:Int) ≤ -1)=false:=dec_neg (by omega)
 (refine v_enter Tryz.func41 rfl Tryz.ntmps41 rfl ?_;intro B _)
 repeat' (first|apply v_box (d:=5) (zs:=Cm.cells ⟨kind,client,seq,key,val,old,node⟩);(case hx|hz|hd=>rfl);intro b5|apply v_alloc (d:=7);(case hz|hd=>rfl);intro b7|apply v_alloc (d:=8);(case hz|hd=>rfl);intro b8|apply v_alloc (d:=10);(case hz|hd=>rfl);intro b10|apply v_alloc (d:=11);(case hz|hd=>rfl);intro b11|apply v_read;(case hop=>(apply r_loadNo;(case hx=>rfl);(case h=>repeat (exact mhd _));(case hd|hn=>rfl)));(case hd=>rfl)|apply v_seq|apply v_region|apply v_nil|apply v_skip|apply v_block|apply v_blk|apply v_take;(case hg=>rfl)|apply v_pass;(case hg|hn|hd=>rfl)|apply v_pure;(case hop=>first|apply p_move<;>rfl|apply p_eq<;>rfl|apply p_lt<;>rfl|apply p_ne<;>rfl|apply p_ge<;>rfl|apply p_assign<;>rfl|apply p_pickT<;>rfl|apply p_pickF<;>rfl|apply p_lenSlice<;>rfl|apply p_fieldAddrB<;>rfl|apply p_build;(case hz=>rfl);(case hv=>(simp only [List.map_cons,List.map_nil];repeat (first|with_reducible exact evs_nil|apply evs_cons;(case h1=>rfl))));(case hb=>(apply bldL;repeat (first|exact bld_nil|apply bld_cons;(case hpf|hc|hs|hl=>rfl);(case ho=>((repeat (first|with_reducible exact ov_nil|apply ov_cons));done)))))|fail);(case hd=>rfl)|apply v_condF;(case hc=>rfl)|apply v_cond;(case hc=>rfl);all_goals (intro h;(try simp only [reduceCtorEq,zzz] at h);try (exfalso;omega))|apply v_guardB;(case h1|h2=>rfl);all_goals (intro h;(try simp only [reduceCtorEq,zzz] at h);try (exfalso;omega))|apply v_callJ (hs:=qp);(case ha|hd=>rfl)|apply v_read;(case hop=>(apply r_load1;rfl;(apply Cell.own;(case h=>repeat first|exact mhd _|apply mtl);rfl)));(case hd=>rfl)|apply v_store;(case hp|hx|hc|hsz|h1=>rfl);(case hb=>repeat first|exact mhd _|apply mtl);(case hfit=>exact nle rfl);(case hov=>((repeat (first|with_reducible exact ov_nil|apply ov_cons));done));(case hu=>repeat first|exact Upd.here _ _|apply Upd.there)|fail)
 ·rw [if_pos (by assumption),if_pos (show 64≤l.length by omega)]
  refine d_start [(b8,.cells [.int .i64 client,.int .i64 seq,.int .i64 11,.bool false,.string ByteArray.empty,.int .i64 0].toArray 28 (0,0))] (by kernel_rfl) (by kernel_rfl) (by kernel_rfl) (by intro e he;(simp at he;simp [he];done)) ?_
  all_goals (apply dtm 0;(case hi|hx=>rfl);(case hq=>kernel_rfl);apply dtk 1;(case hi=>rfl);(case hop=>first|apply r_loadNo;(case hx=>rfl);(case h=>repeat exact mhd _);(case hd=>repeat first|with_reducible exact dt_nil|apply dt_here);(case hn=>rfl)|apply r_load1;rfl;(apply Cell.own;(case h=>repeat fail);rfl)|apply r_loadN;rfl;(apply CellsAt.own;(case h=>repeat fail));rfl);(case hq=>kernel_rfl))
  all_goals (apply dta 2;(case hi|hx=>rfl);(case hq=>kernel_rfl))
  all_goals (apply d_store 3;(case hi=>rfl);(case hr=>kernel_rfl);(case hL=>infer_instance);(case hp|hx|hc|hsz|h1=>rfl);(case hb=>repeat first|exact mhd _|apply mtl);(case hfit=>exact nle rfl);(case hov=>((repeat (first|with_reducible exact ov_nil|apply ov_cons));done));(case hu=>repeat first|exact Upd.here _ _|apply Upd.there);(case hν'=>intro e he;simp at he;simp [he]))
  all_goals (apply d_done;(case hr=>kernel_rfl))
  repeat' (fail)
  refine v_retM [] (outsM_tc (sz1:=6) (vs1:=[.int .i64 client,.int .i64 seq,.int .i64 11,.bool false,.string ByteArray.empty,.int .i64 0]) (e1:=28) rfl rfl rfl (by repeat (first|exact mhd _|apply mtl)) rfl) (List.nil_sublist _) ⟨GH.le_refl _,rfl,_,rfl,hs⟩
 ·rw [if_pos (by assumption),if_neg (show ¬ 64≤l.length by omega)]
  refine v_call (μ1:=[]) rfl qw (List.Perm.refl _) rfl ?_
  rintro v3 G3 _ hle3 ⟨-,rfl,hw3⟩
  repeat' (first|apply v_seq|apply v_region|apply v_nil|apply v_blk|apply v_pure;(case hop=>first|apply p_move<;>rfl|apply p_ge<;>rfl|apply p_assign<;>rfl|apply p_fieldAddrB<;>rfl|fail);(case hd=>rfl)|apply v_read;(case hop=>(apply r_load1;rfl;(apply Cell.own;(case h=>repeat first|exact mhd _|apply mtl);rfl)));(case hd=>rfl)|apply v_store;(case hp|hx|hc|hsz|h1=>rfl);(case hb=>repeat first|exact mhd _|apply mtl);(case hfit=>exact nle rfl);(case hov=>((repeat (first|with_reducible exact ov_nil|apply ov_cons));done));(case hu=>repeat first|exact Upd.here _ _|apply Upd.there)|fail)
  try rw [hdf]
  refine d_start [(b8,.cells [.int .i64 client,.int .i64 seq,.int .i64 0,.bool false,.string ByteArray.empty,.int .i64 0].toArray 28 (0,0))] (by kernel_rfl) (by kernel_rfl) (by kernel_rfl) (by intro e he;(simp at he;simp [he];done)) ?_
  all_goals (apply dtm 0;(case hi|hx=>rfl);(case hq=>kernel_rfl);apply dtk 1;(case hi=>rfl);(case hop=>first|apply r_loadNo;(case hx=>rfl);(case h=>repeat exact mhd _);(case hd=>repeat first|with_reducible exact dt_nil|apply dt_here);(case hn=>rfl)|apply r_load1;rfl;(apply Cell.own;(case h=>repeat fail);rfl)|apply r_loadN;rfl;(apply CellsAt.own;(case h=>repeat fail));rfl);(case hq=>kernel_rfl))
  all_goals (apply dta 2;(case hi|hx=>rfl);(case hq=>kernel_rfl))
  all_goals (apply d_store 3;(case hi=>rfl);(case hr=>kernel_rfl);(case hL=>infer_instance);(case hp|hx|hc|hsz|h1=>rfl);(case hb=>repeat first|exact mhd _|apply mtl);(case hfit=>exact nle rfl);(case hov=>((repeat (first|with_reducible exact ov_nil|apply ov_cons));done));(case hu=>repeat first|exact Upd.here _ _|apply Upd.there);(case hν'=>intro e he;simp at he;simp [he]))
  all_goals (apply d_done;(case hr=>kernel_rfl))
  repeat' (fail)
  refine v_retM [] (outsM_tc (sz1:=6) (vs1:=[.int .i64 client,.int .i64 seq,.int .i64 0,.bool false,.string ByteArray.empty,.int .i64 0]) (e1:=28) rfl rfl rfl (by repeat (first|exact mhd _|apply mtl)) rfl) (List.nil_sublist _) ⟨hle3,rfl,_,rfl,hw3⟩
 ·rw [if_neg (by assumption),if_pos (by assumption)]
  refine v_call (μ1:=[]) rfl qo (List.Perm.refl _) rfl ?_
  rintro v3 G3 _ hle3 ⟨-,rfl,hw3⟩
  repeat' (first|apply v_seq|apply v_region|apply v_nil|apply v_blk|apply v_pure;(case hop=>first|apply p_move<;>rfl|apply p_ge<;>rfl|apply p_assign<;>rfl|apply p_fieldAddrB<;>rfl|fail);(case hd=>rfl)|apply v_read;(case hop=>(apply r_load1;rfl;(apply Cell.own;(case h=>repeat first|exact mhd _|apply mtl);rfl)));(case hd=>rfl)|apply v_store;(case hp|hx|hc|hsz|h1=>rfl);(case hb=>repeat first|exact mhd _|apply mtl);(case hfit=>exact nle rfl);(case hov=>((repeat (first|with_reducible exact ov_nil|apply ov_cons));done));(case hu=>repeat first|exact Upd.here _ _|apply Upd.there)|fail)
  try rw [hdf]
  refine d_start [(b8,.cells [.int .i64 client,.int .i64 seq,.int .i64 0,.bool false,.string ByteArray.empty,.int .i64 0].toArray 28 (0,0))] (by kernel_rfl) (by kernel_rfl) (by kernel_rfl) (by intro e he;(simp at he;simp [he];done)) ?_
  all_goals (apply dtm 0;(case hi|hx=>rfl);(case hq=>kernel_rfl);apply dtk 1;(case hi=>rfl);(case hop=>first|apply r_loadNo;(case hx=>rfl);(case h=>repeat exact mhd _);(case hd=>repeat first|with_reducible exact dt_nil|apply dt_here);(case hn=>rfl)|apply r_load1;rfl;(apply Cell.own;(case h=>repeat fail);rfl)|apply r_loadN;rfl;(apply CellsAt.own;(case h=>repeat fail));rfl);(case hq=>kernel_rfl))
  all_goals (apply dta 2;(case hi|hx=>rfl);(case hq=>kernel_rfl))
  all_goals (apply d_store 3;(case hi=>rfl);(case hr=>kernel_rfl);(case hL=>infer_instance);(case hp|hx|hc|hsz|h1=>rfl);(case hb=>repeat first|exact mhd _|apply mtl);(case hfit=>exact nle rfl);(case hov=>((repeat (first|with_reducible exact ov_nil|apply ov_cons));done));(case hu=>repeat first|exact Upd.here _ _|apply Upd.there);(case hν'=>intro e he;simp at he;simp [he]))
  all_goals (apply d_done;(case hr=>kernel_rfl))
  repeat' (fail)
  refine v_retM [] (outsM_tc (sz1:=6) (vs1:=[.int .i64 client,.int .i64 seq,.int .i64 0,.bool false,.string ByteArray.empty,.int .i64 0]) (e1:=28) rfl rfl rfl (by repeat (first|exact mhd _|apply mtl)) rfl) (List.nil_sublist _) ⟨hle3,rfl,_,rfl,hw3⟩
 ·rw [if_neg (by assumption),if_neg (by assumption),if_neg (by assumption)]
  try rw [hdf]
  refine d_start [(b8,.cells [.int .i64 client,.int .i64 seq,.int .i64 0,.bool false,.string ByteArray.empty,.int .i64 0].toArray 28 (0,0))] (by kernel_rfl) (by kernel_rfl) (by kernel_rfl) (by intro e he;(simp at he;simp [he];done)) ?_
  all_goals (apply dtm 0;(case hi|hx=>rfl);(case hq=>kernel_rfl);apply dtk 1;(case hi=>rfl);(case hop=>first|apply r_loadNo;(case hx=>rfl);(case h=>repeat exact mhd _);(case hd=>repeat first|with_reducible exact dt_nil|apply dt_here);(case hn=>rfl)|apply r_load1;rfl;(apply Cell.own;(case h=>repeat fail);rfl)|apply r_loadN;rfl;(apply CellsAt.own;(case h=>repeat fail));rfl);(case hq=>kernel_rfl))
  all_goals (apply dta 2;(case hi|hx=>rfl);(case hq=>kernel_rfl))
  all_goals (apply d_store 3;(case hi=>rfl);(case hr=>kernel_rfl);(case hL=>infer_instance);(case hp|hx|hc|hsz|h1=>rfl);(case hb=>repeat first|exact mhd _|apply mtl);(case hfit=>exact nle rfl);(case hov=>((repeat (first|with_reducible exact ov_nil|apply ov_cons));done));(case hu=>repeat first|exact Upd.here _ _|apply Upd.there);(case hν'=>intro e he;simp at he;simp [he]))
  all_goals (apply d_done;(case hr=>kernel_rfl))
  repeat' (fail)
  refine v_retM [] (outsM_tc (sz1:=6) (vs1:=[.int .i64 client,.int .i64 seq,.int .i64 0,.bool false,.string ByteArray.empty,.int .i64 0]) (e1:=28) rfl rfl rfl (by repeat (first|exact mhd _|apply mtl)) rfl) (List.nil_sublist _) ⟨GH.le_refl _,rfl,_,rfl,hs⟩
theorem doN2 {G:GH}{l:List Pr}{A:Option Addr}{c:Nat}(kind client seq:Int) (key val old:ByteArray) (node:Int) (hs:Prs G (.slice A l.length c) l) (hr:RiseW ksP l) (hz:Sized l) (hn:l.length≤200) (hkz:key.size≤200) (hk:2≤kind∧kind≤5)
 (qp:Con Tryz.prog 53 #[.slice A l.length c,.string key] G [] (Just (.int .i64 (-1)) G)) :
 Con Tryz.prog 41 #[.int .i64 2,.slice A l.length c,.agg (Cm.cells ⟨kind,client,seq,key,val,old,node⟩).toArray] G [] (DoPost G (if kind=2 then (if 64≤l.length then (l,⟨client,seq,11,false,ByteArray.empty,0⟩) else (withG ksP l ⟨key,val,1⟩,⟨client,seq,0,false,ByteArray.empty,0⟩)) else if kind=4 then (l.filter (fun x=>decide (ksP x≠kn key)),⟨client,seq,0,false,ByteArray.empty,0⟩) else if kind=5 then (l,⟨client,seq,10,false,ByteArray.empty,0⟩) else (l,⟨client,seq,0,false,ByteArray.empty,0⟩):List Pr×An)):=by
 obtain ⟨B0,e0,e,hlc,hcm,hsome,hcp⟩:=rowOpen hs
 cases e
 simp only [maxLen] at hcm
 have qw:=refPWith_s ⟨key,val,1⟩ hs hr hn hz hkz
 have qo:=refWithout_s key hs hn hz hkz
 have hdf:dec ((0:Int) ≤ -1)=false:=dec_neg (by omega)
 (refine v_enter Tryz.func41 rfl Tryz.ntmps41 rfl ?_;intro B _)
 repeat' (first|apply v_box (d:=5) (zs:=Cm.cells ⟨kind,client,seq,key,val,old,node⟩);(case hx|hz|hd=>rfl);intro b5|apply v_alloc (d:=7);(case hz|hd=>rfl);intro b7|apply v_alloc (d:=8);(case hz|hd=>rfl);intro b8|apply v_alloc (d:=10);(case hz|hd=>rfl);intro b10|apply v_alloc (d:=11);(case hz|hd=>rfl);intro b11|apply v_read;(case hop=>(apply r_loadNo;(case hx=>rfl);(case h=>repeat (exact mhd _));(case hd|hn=>rfl)));(case hd=>rfl)|apply v_seq|apply v_region|apply v_nil|apply v_skip|apply v_block|apply v_blk|apply v_take;(case hg=>rfl)|apply v_pass;(case hg|hn|hd=>rfl)|apply v_pure;(case hop=>first|apply p_move<;>rfl|apply p_eqs<;>rfl|apply p_eq<;>rfl|apply p_lt<;>rfl|apply p_ne<;>rfl|apply p_ge<;>rfl|apply p_assign<;>rfl|apply p_pickT<;>rfl|apply p_pickF<;>rfl|apply p_lenSlice<;>rfl|apply p_fieldAddrB<;>rfl|apply p_build;(case hz=>rfl);(case hv=>(simp only [List.map_cons,List.map_nil];repeat (first|with_reducible exact evs_nil|apply evs_cons;(case h1=>rfl))));(case hb=>(apply bldL;repeat (first|exact bld_nil|apply bld_cons;(case hpf|hc|hs|hl=>rfl);(case ho=>((repeat (first|with_reducible exact ov_nil|apply ov_cons));done)))))|fail);(case hd=>rfl)|apply v_condT;(case hc=>rfl)|apply v_condF;(case hc=>rfl)|apply v_cond;(case hc=>rfl);all_goals (intro h;(try simp only [reduceCtorEq,zzz] at h);try (exfalso;omega))|apply v_guardB;(case h1|h2=>rfl);all_goals (intro h;(try simp only [reduceCtorEq,zzz] at h);try (exfalso;omega))|apply v_callJ (hs:=qp);(case ha|hd=>rfl)|apply v_read;(case hop=>(apply r_load1;rfl;(apply Cell.own;(case h=>repeat first|exact mhd _|apply mtl);rfl)));(case hd=>rfl)|apply v_store;(case hp|hx|hc|hsz|h1=>rfl);(case hb=>repeat first|exact mhd _|apply mtl);(case hfit=>exact nle rfl);(case hov=>((repeat (first|with_reducible exact ov_nil|apply ov_cons));done));(case hu=>repeat first|exact Upd.here _ _|apply Upd.there)|fail)
 ·rw [if_pos (by assumption),if_pos (show 64≤l.length by omega)]
  refine d_start [(b8,.cells [.int .i64 client,.int .i64 seq,.int .i64 11,.bool false,.string ByteArray.empty,.int .i64 0].toArray 28 (0,0))] (by kernel_rfl) (by kernel_rfl) (by kernel_rfl) (by intro e he;(simp at he;simp [he];done)) ?_
  all_goals (apply dtm 0;(case hi|hx=>rfl);(case hq=>kernel_rfl);apply dtk 1;(case hi=>rfl);(case hop=>first|apply r_loadNo;(case hx=>rfl);(case h=>repeat exact mhd _);(case hd=>repeat first|with_reducible exact dt_nil|apply dt_here);(case hn=>rfl)|apply r_load1;rfl;(apply Cell.own;(case h=>repeat fail);rfl)|apply r_loadN;rfl;(apply CellsAt.own;(case h=>repeat fail));rfl);(case hq=>kernel_rfl))
  all_goals (apply dta 2;(case hi|hx=>rfl);(case hq=>kernel_rfl))
  all_goals (apply d_store 3;(case hi=>rfl);(case hr=>kernel_rfl);(case hL=>infer_instance);(case hp|hx|hc|hsz|h1=>rfl);(case hb=>repeat first|exact mhd _|apply mtl);(case hfit=>exact nle rfl);(case hov=>((repeat (first|with_reducible exact ov_nil|apply ov_cons));done));(case hu=>repeat first|exact Upd.here _ _|apply Upd.there);(case hν'=>intro e he;simp at he;simp [he]))
  all_goals (apply d_done;(case hr=>kernel_rfl))
  repeat' (fail)
  refine v_retM [] (outsM_tc (sz1:=6) (vs1:=[.int .i64 client,.int .i64 seq,.int .i64 11,.bool false,.string ByteArray.empty,.int .i64 0]) (e1:=28) rfl rfl rfl (by repeat (first|exact mhd _|apply mtl)) rfl) (List.nil_sublist _) ⟨GH.le_refl _,rfl,_,rfl,hs⟩
 ·rw [if_pos (by assumption),if_neg (show ¬ 64≤l.length by omega)]
  refine v_call (μ1:=[]) rfl qw (List.Perm.refl _) rfl ?_
  rintro v3 G3 _ hle3 ⟨-,rfl,hw3⟩
  repeat' (first|apply v_seq|apply v_region|apply v_nil|apply v_blk|apply v_pure;(case hop=>first|apply p_move<;>rfl|apply p_ge<;>rfl|apply p_assign<;>rfl|apply p_fieldAddrB<;>rfl|fail);(case hd=>rfl)|apply v_read;(case hop=>(apply r_load1;rfl;(apply Cell.own;(case h=>repeat first|exact mhd _|apply mtl);rfl)));(case hd=>rfl)|apply v_store;(case hp|hx|hc|hsz|h1=>rfl);(case hb=>repeat first|exact mhd _|apply mtl);(case hfit=>exact nle rfl);(case hov=>((repeat (first|with_reducible exact ov_nil|apply ov_cons));done));(case hu=>repeat first|exact Upd.here _ _|apply Upd.there)|fail)
  try rw [hdf]
  refine d_start [(b8,.cells [.int .i64 client,.int .i64 seq,.int .i64 0,.bool false,.string ByteArray.empty,.int .i64 0].toArray 28 (0,0))] (by kernel_rfl) (by kernel_rfl) (by kernel_rfl) (by intro e he;(simp at he;simp [he];done)) ?_
  all_goals (apply dtm 0;(case hi|hx=>rfl);(case hq=>kernel_rfl);apply dtk 1;(case hi=>rfl);(case hop=>first|apply r_loadNo;(case hx=>rfl);(case h=>repeat exact mhd _);(case hd=>repeat first|with_reducible exact dt_nil|apply dt_here);(case hn=>rfl)|apply r_load1;rfl;(apply Cell.own;(case h=>repeat fail);rfl)|apply r_loadN;rfl;(apply CellsAt.own;(case h=>repeat fail));rfl);(case hq=>kernel_rfl))
  all_goals (apply dta 2;(case hi|hx=>rfl);(case hq=>kernel_rfl))
  all_goals (apply d_store 3;(case hi=>rfl);(case hr=>kernel_rfl);(case hL=>infer_instance);(case hp|hx|hc|hsz|h1=>rfl);(case hb=>repeat first|exact mhd _|apply mtl);(case hfit=>exact nle rfl);(case hov=>((repeat (first|with_reducible exact ov_nil|apply ov_cons));done));(case hu=>repeat first|exact Upd.here _ _|apply Upd.there);(case hν'=>intro e he;simp at he;simp [he]))
  all_goals (apply d_done;(case hr=>kernel_rfl))
  repeat' (fail)
  refine v_retM [] (outsM_tc (sz1:=6) (vs1:=[.int .i64 client,.int .i64 seq,.int .i64 0,.bool false,.string ByteArray.empty,.int .i64 0]) (e1:=28) rfl rfl rfl (by repeat (first|exact mhd _|apply mtl)) rfl) (List.nil_sublist _) ⟨hle3,rfl,_,rfl,hw3⟩
 ·rw [if_neg (by assumption),if_pos (by assumption)]
  refine v_call (μ1:=[]) rfl qo (List.Perm.refl _) rfl ?_
  rintro v3 G3 _ hle3 ⟨-,rfl,hw3⟩
  repeat' (first|apply v_seq|apply v_region|apply v_nil|apply v_blk|apply v_pure;(case hop=>first|apply p_move<;>rfl|apply p_ge<;>rfl|apply p_assign<;>rfl|apply p_fieldAddrB<;>rfl|fail);(case hd=>rfl)|apply v_read;(case hop=>(apply r_load1;rfl;(apply Cell.own;(case h=>repeat first|exact mhd _|apply mtl);rfl)));(case hd=>rfl)|apply v_store;(case hp|hx|hc|hsz|h1=>rfl);(case hb=>repeat first|exact mhd _|apply mtl);(case hfit=>exact nle rfl);(case hov=>((repeat (first|with_reducible exact ov_nil|apply ov_cons));done));(case hu=>repeat first|exact Upd.here _ _|apply Upd.there)|fail)
  try rw [hdf]
  refine d_start [(b8,.cells [.int .i64 client,.int .i64 seq,.int .i64 0,.bool false,.string ByteArray.empty,.int .i64 0].toArray 28 (0,0))] (by kernel_rfl) (by kernel_rfl) (by kernel_rfl) (by intro e he;(simp at he;simp [he];done)) ?_
  all_goals (apply dtm 0;(case hi|hx=>rfl);(case hq=>kernel_rfl);apply dtk 1;(case hi=>rfl);(case hop=>first|apply r_loadNo;(case hx=>rfl);(case h=>repeat exact mhd _);(case hd=>repeat first|with_reducible exact dt_nil|apply dt_here);(case hn=>rfl)|apply r_load1;rfl;(apply Cell.own;(case h=>repeat fail);rfl)|apply r_loadN;rfl;(apply CellsAt.own;(case h=>repeat fail));rfl);(case hq=>kernel_rfl))
  all_goals (apply dta 2;(case hi|hx=>rfl);(case hq=>kernel_rfl))
  all_goals (apply d_store 3;(case hi=>rfl);(case hr=>kernel_rfl);(case hL=>infer_instance);(case hp|hx|hc|hsz|h1=>rfl);(case hb=>repeat first|exact mhd _|apply mtl);(case hfit=>exact nle rfl);(case hov=>((repeat (first|with_reducible exact ov_nil|apply ov_cons));done));(case hu=>repeat first|exact Upd.here _ _|apply Upd.there);(case hν'=>intro e he;simp at he;simp [he]))
  all_goals (apply d_done;(case hr=>kernel_rfl))
  repeat' (fail)
  refine v_retM [] (outsM_tc (sz1:=6) (vs1:=[.int .i64 client,.int .i64 seq,.int .i64 0,.bool false,.string ByteArray.empty,.int .i64 0]) (e1:=28) rfl rfl rfl (by repeat (first|exact mhd _|apply mtl)) rfl) (List.nil_sublist _) ⟨hle3,rfl,_,rfl,hw3⟩
 ·rw [if_neg (by assumption),if_neg (by assumption),if_pos (by assumption)]
  try rw [hdf]
  refine d_start [(b8,.cells [.int .i64 client,.int .i64 seq,.int .i64 10,.bool false,.string ByteArray.empty,.int .i64 0].toArray 28 (0,0))] (by kernel_rfl) (by kernel_rfl) (by kernel_rfl) (by intro e he;(simp at he;simp [he];done)) ?_
  all_goals (apply dtm 0;(case hi|hx=>rfl);(case hq=>kernel_rfl);apply dtk 1;(case hi=>rfl);(case hop=>first|apply r_loadNo;(case hx=>rfl);(case h=>repeat exact mhd _);(case hd=>repeat first|with_reducible exact dt_nil|apply dt_here);(case hn=>rfl)|apply r_load1;rfl;(apply Cell.own;(case h=>repeat fail);rfl)|apply r_loadN;rfl;(apply CellsAt.own;(case h=>repeat fail));rfl);(case hq=>kernel_rfl))
  all_goals (apply dta 2;(case hi|hx=>rfl);(case hq=>kernel_rfl))
  all_goals (apply d_store 3;(case hi=>rfl);(case hr=>kernel_rfl);(case hL=>infer_instance);(case hp|hx|hc|hsz|h1=>rfl);(case hb=>repeat first|exact mhd _|apply mtl);(case hfit=>exact nle rfl);(case hov=>((repeat (first|with_reducible exact ov_nil|apply ov_cons));done));(case hu=>repeat first|exact Upd.here _ _|apply Upd.there);(case hν'=>intro e he;simp at he;simp [he]))
  all_goals (apply d_done;(case hr=>kernel_rfl))
  repeat' (fail)
  refine v_retM [] (outsM_tc (sz1:=6) (vs1:=[.int .i64 client,.int .i64 seq,.int .i64 10,.bool false,.string ByteArray.empty,.int .i64 0]) (e1:=28) rfl rfl rfl (by repeat (first|exact mhd _|apply mtl)) rfl) (List.nil_sublist _) ⟨GH.le_refl _,rfl,_,rfl,hs⟩
 ·rw [if_neg (by assumption),if_neg (by assumption),if_neg (by assumption)]
  try rw [hdf]
  refine d_start [(b8,.cells [.int .i64 client,.int .i64 seq,.int .i64 0,.bool false,.string ByteArray.empty,.int .i64 0].toArray 28 (0,0))] (by kernel_rfl) (by kernel_rfl) (by kernel_rfl) (by intro e he;(simp at he;simp [he];done)) ?_
  all_goals (apply dtm 0;(case hi|hx=>rfl);(case hq=>kernel_rfl);apply dtk 1;(case hi=>rfl);(case hop=>first|apply r_loadNo;(case hx=>rfl);(case h=>repeat exact mhd _);(case hd=>repeat first|with_reducible exact dt_nil|apply dt_here);(case hn=>rfl)|apply r_load1;rfl;(apply Cell.own;(case h=>repeat fail);rfl)|apply r_loadN;rfl;(apply CellsAt.own;(case h=>repeat fail));rfl);(case hq=>kernel_rfl))
  all_goals (apply dta 2;(case hi|hx=>rfl);(case hq=>kernel_rfl))
  all_goals (apply d_store 3;(case hi=>rfl);(case hr=>kernel_rfl);(case hL=>infer_instance);(case hp|hx|hc|hsz|h1=>rfl);(case hb=>repeat first|exact mhd _|apply mtl);(case hfit=>exact nle rfl);(case hov=>((repeat (first|with_reducible exact ov_nil|apply ov_cons));done));(case hu=>repeat first|exact Upd.here _ _|apply Upd.there);(case hν'=>intro e he;simp at he;simp [he]))
  all_goals (apply d_done;(case hr=>kernel_rfl))
  repeat' (fail)
  refine v_retM [] (outsM_tc (sz1:=6) (vs1:=[.int .i64 client,.int .i64 seq,.int .i64 0,.bool false,.string ByteArray.empty,.int .i64 0]) (e1:=28) rfl rfl rfl (by repeat (first|exact mhd _|apply mtl)) rfl) (List.nil_sublist _) ⟨GH.le_refl _,rfl,_,rfl,hs⟩
theorem doH1 {G:GH}{l:List Pr}{A:Option Addr}{c:Nat}(kind client seq:Int) (key val old:ByteArray) (node:Int) (hs:Prs G (.slice A l.length c) l) (hr:RiseW ksP l) (hz:Sized l) (hn:l.length≤200) (hkz:key.size≤200) (hk:2≤kind∧kind≤5) (h5:kind≠5) (i:Nat) (hi:i<l.length) (f:Pr) (hck:CellsG G ((adr A).add (i*3)) f.cells)
 (qp:Con Tryz.prog 53 #[.slice A l.length c,.string key] G [] (Just (.int .i64 (i:Nat)) G)) :
 Con Tryz.prog 41 #[.int .i64 1,.slice A l.length c,.agg (Cm.cells ⟨kind,client,seq,key,val,old,node⟩).toArray] G [] (DoPost G (if kind=2 then (withG ksP l ⟨key,val,0⟩,⟨client,seq,0,true,f.val,0⟩) else if kind=4 then (l.filter (fun x=>decide (ksP x≠kn key)),⟨client,seq,0,true,f.val,0⟩) else if kind=5 then (if f.val=old then (withG ksP l ⟨key,val,0⟩,⟨client,seq,0,true,f.val,0⟩) else (l,⟨client,seq,15,true,f.val,f.rev⟩)) else (l,⟨client,seq,0,true,f.val,0⟩):List Pr×An)):=by
 obtain ⟨B0,e0,e,hlc,hcm,hsome,hcp⟩:=rowOpen hs
 cases e
 simp only [maxLen] at hcm
 have qw:=refPWith_s ⟨key,val,0⟩ hs hr hn hz hkz
 have qo:=refWithout_s key hs hn hz hkz
 have e1:((i:Nat):Int).toNat=i:=by omega
 have hA:=hsome (by omega)
 skip
 have hdf:dec ((0:Int)≤(i:Nat))=true:=dec_pos (by omega)
 (refine v_enter Tryz.func41 rfl Tryz.ntmps41 rfl ?_;intro B _)
 repeat' (first|apply v_box (d:=5) (zs:=Cm.cells ⟨kind,client,seq,key,val,old,node⟩);(case hx|hz|hd=>rfl);intro b5|apply v_alloc (d:=7);(case hz|hd=>rfl);intro b7|apply v_alloc (d:=8);(case hz|hd=>rfl);intro b8|apply v_alloc (d:=10);(case hz|hd=>rfl);intro b10|apply v_alloc (d:=11);(case hz|hd=>rfl);intro b11|apply v_read;(case hop=>(apply r_loadNo;(case hx=>rfl);(case h=>repeat (exact mhd _));(case hd|hn=>rfl)));(case hd=>rfl)|apply v_seq|apply v_region|apply v_nil|apply v_skip|apply v_block|apply v_blk|apply v_take;(case hg=>rfl)|apply v_pass;(case hg|hn|hd=>rfl)|apply v_pure;(case hop=>first|apply p_move<;>rfl|apply p_eq<;>rfl|apply p_lt<;>rfl|apply p_ne<;>rfl|apply p_ge<;>rfl|apply p_assign<;>rfl|apply p_pickT<;>rfl|apply p_pickF<;>rfl|apply p_fieldAddrB<;>rfl|apply p_indexAddrS;(case hx|hi=>rfl);(case h0|h=>omega);(case hA=>assumption)|apply p_build;(case hz=>rfl);(case hv=>(simp only [List.map_cons,List.map_nil];repeat (first|with_reducible exact evs_nil|apply evs_cons;(case h1=>rfl))));(case hb=>(apply bldL;repeat (first|exact bld_nil|apply bld_cons;(case hpf|hc|hs|hl=>rfl);(case ho=>((repeat (first|with_reducible exact ov_nil|apply ov_cons));done)))))|fail);(case hd=>rfl)|apply v_condF;(case hc=>rfl)|apply v_cond;(case hc=>rfl);all_goals (intro h;(try simp only [reduceCtorEq,zzz] at h);try (exfalso;omega))|apply v_guardB;(case h1|h2=>rfl);all_goals (intro h;(try simp only [reduceCtorEq,zzz] at h);try (exfalso;omega))|apply v_read;(case hop=>(apply r_loadN;rfl;exact CellsAt.frozen hck;rfl));(case hd=>rfl)|apply v_callJ (hs:=qp);(case ha|hd=>rfl)|apply v_read;(case hop=>(apply r_load1;rfl;(apply Cell.own;(case h=>repeat first|exact mhd _|apply mtl);rfl)));(case hd=>rfl)|apply v_store;(case hp|hx|hc|hsz|h1=>rfl);(case hb=>repeat first|exact mhd _|apply mtl);(case hfit=>exact nle rfl);(case hov=>((repeat (first|with_reducible exact ov_nil|apply ov_cons));done));(case hu=>repeat first|exact Upd.here _ _|apply Upd.there)|fail)
 ·rw [if_pos (by assumption)]
  refine v_call (μ1:=[]) rfl qw (List.Perm.refl _) rfl ?_
  rintro v3 G3 _ hle3 ⟨-,rfl,hw3⟩
  repeat' (first|apply v_seq|apply v_region|apply v_nil|apply v_blk|apply v_pure;(case hop=>first|apply p_move<;>rfl|apply p_ge<;>rfl|apply p_assign<;>rfl|apply p_fieldAddrB<;>rfl|fail);(case hd=>rfl)|apply v_read;(case hop=>(apply r_load1;rfl;(apply Cell.own;(case h=>repeat first|exact mhd _|apply mtl);rfl)));(case hd=>rfl)|apply v_store;(case hp|hx|hc|hsz|h1=>rfl);(case hb=>repeat first|exact mhd _|apply mtl);(case hfit=>exact nle rfl);(case hov=>((repeat (first|with_reducible exact ov_nil|apply ov_cons));done));(case hu=>repeat first|exact Upd.here _ _|apply Upd.there)|fail)
  try rw [hdf]
  refine d_start [(b8,.cells [.int .i64 client,.int .i64 seq,.int .i64 0,.bool true,.string f.val,.int .i64 0].toArray 28 (0,0))] (by kernel_rfl) (by kernel_rfl) (by kernel_rfl) (by intro e he;(simp at he;simp [he];done)) ?_
  all_goals (apply dtm 0;(case hi|hx=>rfl);(case hq=>kernel_rfl);apply dtk 1;(case hi=>rfl);(case hop=>first|apply r_loadNo;(case hx=>rfl);(case h=>repeat exact mhd _);(case hd=>repeat first|with_reducible exact dt_nil|apply dt_here);(case hn=>rfl)|apply r_load1;rfl;(apply Cell.own;(case h=>repeat fail);rfl)|apply r_loadN;rfl;(apply CellsAt.own;(case h=>repeat fail));rfl);(case hq=>kernel_rfl))
  all_goals (apply dta 2;(case hi|hx=>rfl);(case hq=>kernel_rfl))
  all_goals (apply d_store 3;(case hi=>rfl);(case hr=>kernel_rfl);(case hL=>infer_instance);(case hp|hx|hc|hsz|h1=>rfl);(case hb=>repeat first|exact mhd _|apply mtl);(case hfit=>exact nle rfl);(case hov=>((repeat (first|with_reducible exact ov_nil|apply ov_cons));done));(case hu=>repeat first|exact Upd.here _ _|apply Upd.there);(case hν'=>intro e he;simp at he;simp [he]))
  all_goals (apply d_done;(case hr=>kernel_rfl))
  repeat' (fail)
  refine v_retM [] (outsM_tc (sz1:=6) (vs1:=[.int .i64 client,.int .i64 seq,.int .i64 0,.bool true,.string f.val,.int .i64 0]) (e1:=28) rfl rfl rfl (by repeat (first|exact mhd _|apply mtl)) rfl) (List.nil_sublist _) ⟨hle3,rfl,_,rfl,hw3⟩
 ·rw [if_neg (by assumption),if_pos (by assumption)]
  refine v_call (μ1:=[]) rfl qo (List.Perm.refl _) rfl ?_
  rintro v3 G3 _ hle3 ⟨-,rfl,hw3⟩
  repeat' (first|apply v_seq|apply v_region|apply v_nil|apply v_blk|apply v_pure;(case hop=>first|apply p_move<;>rfl|apply p_ge<;>rfl|apply p_assign<;>rfl|apply p_fieldAddrB<;>rfl|fail);(case hd=>rfl)|apply v_read;(case hop=>(apply r_load1;rfl;(apply Cell.own;(case h=>repeat first|exact mhd _|apply mtl);rfl)));(case hd=>rfl)|apply v_store;(case hp|hx|hc|hsz|h1=>rfl);(case hb=>repeat first|exact mhd _|apply mtl);(case hfit=>exact nle rfl);(case hov=>((repeat (first|with_reducible exact ov_nil|apply ov_cons));done));(case hu=>repeat first|exact Upd.here _ _|apply Upd.there)|fail)
  try rw [hdf]
  refine d_start [(b8,.cells [.int .i64 client,.int .i64 seq,.int .i64 0,.bool true,.string f.val,.int .i64 0].toArray 28 (0,0))] (by kernel_rfl) (by kernel_rfl) (by kernel_rfl) (by intro e he;(simp at he;simp [he];done)) ?_
  all_goals (apply dtm 0;(case hi|hx=>rfl);(case hq=>kernel_rfl);apply dtk 1;(case hi=>rfl);(case hop=>first|apply r_loadNo;(case hx=>rfl);(case h=>repeat exact mhd _);(case hd=>repeat first|with_reducible exact dt_nil|apply dt_here);(case hn=>rfl)|apply r_load1;rfl;(apply Cell.own;(case h=>repeat fail);rfl)|apply r_loadN;rfl;(apply CellsAt.own;(case h=>repeat fail));rfl);(case hq=>kernel_rfl))
  all_goals (apply dta 2;(case hi|hx=>rfl);(case hq=>kernel_rfl))
  all_goals (apply d_store 3;(case hi=>rfl);(case hr=>kernel_rfl);(case hL=>infer_instance);(case hp|hx|hc|hsz|h1=>rfl);(case hb=>repeat first|exact mhd _|apply mtl);(case hfit=>exact nle rfl);(case hov=>((repeat (first|with_reducible exact ov_nil|apply ov_cons));done));(case hu=>repeat first|exact Upd.here _ _|apply Upd.there);(case hν'=>intro e he;simp at he;simp [he]))
  all_goals (apply d_done;(case hr=>kernel_rfl))
  repeat' (fail)
  refine v_retM [] (outsM_tc (sz1:=6) (vs1:=[.int .i64 client,.int .i64 seq,.int .i64 0,.bool true,.string f.val,.int .i64 0]) (e1:=28) rfl rfl rfl (by repeat (first|exact mhd _|apply mtl)) rfl) (List.nil_sublist _) ⟨hle3,rfl,_,rfl,hw3⟩
 ·rw [if_neg (by assumption),if_neg (by assumption),if_neg (by assumption)]
  try rw [hdf]
  refine d_start [(b8,.cells [.int .i64 client,.int .i64 seq,.int .i64 0,.bool true,.string f.val,.int .i64 0].toArray 28 (0,0))] (by kernel_rfl) (by kernel_rfl) (by kernel_rfl) (by intro e he;(simp at he;simp [he];done)) ?_
  all_goals (apply dtm 0;(case hi|hx=>rfl);(case hq=>kernel_rfl);apply dtk 1;(case hi=>rfl);(case hop=>first|apply r_loadNo;(case hx=>rfl);(case h=>repeat exact mhd _);(case hd=>repeat first|with_reducible exact dt_nil|apply dt_here);(case hn=>rfl)|apply r_load1;rfl;(apply Cell.own;(case h=>repeat fail);rfl)|apply r_loadN;rfl;(apply CellsAt.own;(case h=>repeat fail));rfl);(case hq=>kernel_rfl))
  all_goals (apply dta 2;(case hi|hx=>rfl);(case hq=>kernel_rfl))
  all_goals (apply d_store 3;(case hi=>rfl);(case hr=>kernel_rfl);(case hL=>infer_instance);(case hp|hx|hc|hsz|h1=>rfl);(case hb=>repeat first|exact mhd _|apply mtl);(case hfit=>exact nle rfl);(case hov=>((repeat (first|with_reducible exact ov_nil|apply ov_cons));done));(case hu=>repeat first|exact Upd.here _ _|apply Upd.there);(case hν'=>intro e he;simp at he;simp [he]))
  all_goals (apply d_done;(case hr=>kernel_rfl))
  repeat' (fail)
  refine v_retM [] (outsM_tc (sz1:=6) (vs1:=[.int .i64 client,.int .i64 seq,.int .i64 0,.bool true,.string f.val,.int .i64 0]) (e1:=28) rfl rfl rfl (by repeat (first|exact mhd _|apply mtl)) rfl) (List.nil_sublist _) ⟨GH.le_refl _,rfl,_,rfl,hs⟩
theorem doH2 {G:GH}{l:List Pr}{A:Option Addr}{c:Nat}(kind client seq:Int) (key val old:ByteArray) (node:Int) (hs:Prs G (.slice A l.length c) l) (hr:RiseW ksP l) (hz:Sized l) (hn:l.length≤200) (hkz:key.size≤200) (hk:2≤kind∧kind≤5) (i:Nat) (hi:i<l.length) (f:Pr) (hck:CellsG G ((adr A).add (i*3)) f.cells) (hrev:f.rev<4294967296) (hrev2:1≤f.rev)
 (qp:Con Tryz.prog 53 #[.slice A l.length c,.string key] G [] (Just (.int .i64 (i:Nat)) G)) :
 Con Tryz.prog 41 #[.int .i64 2,.slice A l.length c,.agg (Cm.cells ⟨kind,client,seq,key,val,old,node⟩).toArray] G [] (DoPost G (if kind=2 then (withG ksP l ⟨key,val,(f.rev+1)⟩,⟨client,seq,0,true,f.val,0⟩) else if kind=4 then (l.filter (fun x=>decide (ksP x≠kn key)),⟨client,seq,0,true,f.val,0⟩) else if kind=5 then (if f.val=old then (withG ksP l ⟨key,val,(f.rev+1)⟩,⟨client,seq,0,true,f.val,(f.rev+1)⟩) else (l,⟨client,seq,15,true,f.val,f.rev⟩)) else (l,⟨client,seq,0,true,f.val,0⟩):List Pr×An)):=by
 obtain ⟨B0,e0,e,hlc,hcm,hsome,hcp⟩:=rowOpen hs
 cases e
 simp only [maxLen] at hcm
 have qw:=refPWith_s ⟨key,val,(f.rev+1)⟩ hs hr hn hz hkz
 have qo:=refWithout_s key hs hn hz hkz
 have e1:((i:Nat):Int).toNat=i:=by omega
 have hA:=hsome (by omega)
 skip
 have hdf:dec ((0:Int)≤(i:Nat))=true:=dec_pos (by omega)
 (refine v_enter Tryz.func41 rfl Tryz.ntmps41 rfl ?_;intro B _)
 repeat' (first|apply v_box (d:=5) (zs:=Cm.cells ⟨kind,client,seq,key,val,old,node⟩);(case hx|hz|hd=>rfl);intro b5|apply v_alloc (d:=7);(case hz|hd=>rfl);intro b7|apply v_alloc (d:=8);(case hz|hd=>rfl);intro b8|apply v_alloc (d:=10);(case hz|hd=>rfl);intro b10|apply v_alloc (d:=11);(case hz|hd=>rfl);intro b11|apply v_read;(case hop=>(apply r_loadNo;(case hx=>rfl);(case h=>repeat (exact mhd _));(case hd|hn=>rfl)));(case hd=>rfl)|apply v_seq|apply v_region|apply v_nil|apply v_skip|apply v_block|apply v_blk|apply v_take;(case hg=>rfl)|apply v_pass;(case hg|hn|hd=>rfl)|apply v_pure;(case hop=>first|apply p_move<;>rfl|apply p_eqs<;>rfl|apply p_eq<;>rfl|apply p_lt<;>rfl|apply p_ne<;>rfl|apply p_ge<;>rfl|apply p_assign<;>rfl|apply p_pickT<;>rfl|apply p_pickF<;>rfl|apply p_fieldAddrB<;>rfl|apply p_add;(case hx|hy=>rfl);(case h=>omega)|apply p_indexAddrS;(case hx|hi=>rfl);(case h0|h=>omega);(case hA=>assumption)|apply p_build;(case hz=>rfl);(case hv=>(simp only [List.map_cons,List.map_nil];repeat (first|with_reducible exact evs_nil|apply evs_cons;(case h1=>rfl))));(case hb=>(apply bldL;repeat (first|exact bld_nil|apply bld_cons;(case hpf|hc|hs|hl=>rfl);(case ho=>((repeat (first|with_reducible exact ov_nil|apply ov_cons));done)))))|apply p_neS<;>rfl|fail);(case hd=>rfl)|apply v_condT;(case hc=>rfl)|apply v_condF;(case hc=>rfl)|apply v_cond;(case hc=>rfl);all_goals (intro h;(try simp only [reduceCtorEq,zzz] at h);try (exfalso;omega))|apply v_guardB;(case h1|h2=>rfl);all_goals (intro h;(try simp only [reduceCtorEq,zzz] at h);try (exfalso;omega))|apply v_read;(case hop=>(apply r_loadN;rfl;exact CellsAt.frozen hck;rfl));(case hd=>rfl)|apply v_callJ (hs:=qp);(case ha|hd=>rfl)|apply v_read;(case hop=>(apply r_load1;rfl;(apply Cell.own;(case h=>repeat first|exact mhd _|apply mtl);rfl)));(case hd=>rfl)|apply v_store;(case hp|hx|hc|hsz|h1=>rfl);(case hb=>repeat first|exact mhd _|apply mtl);(case hfit=>exact nle rfl);(case hov=>((repeat (first|with_reducible exact ov_nil|apply ov_cons));done));(case hu=>repeat first|exact Upd.here _ _|apply Upd.there)|fail)
 ·rw [if_pos (by assumption)]
  refine v_call (μ1:=[]) rfl qw (List.Perm.refl _) rfl ?_
  rintro v3 G3 _ hle3 ⟨-,rfl,hw3⟩
  repeat' (first|apply v_seq|apply v_region|apply v_nil|apply v_blk|apply v_pure;(case hop=>first|apply p_move<;>rfl|apply p_ge<;>rfl|apply p_assign<;>rfl|apply p_fieldAddrB<;>rfl|fail);(case hd=>rfl)|apply v_read;(case hop=>(apply r_load1;rfl;(apply Cell.own;(case h=>repeat first|exact mhd _|apply mtl);rfl)));(case hd=>rfl)|apply v_store;(case hp|hx|hc|hsz|h1=>rfl);(case hb=>repeat first|exact mhd _|apply mtl);(case hfit=>exact nle rfl);(case hov=>((repeat (first|with_reducible exact ov_nil|apply ov_cons));done));(case hu=>repeat first|exact Upd.here _ _|apply Upd.there)|fail)
  try rw [hdf]
  refine d_start [(b8,.cells [.int .i64 client,.int .i64 seq,.int .i64 0,.bool true,.string f.val,.int .i64 0].toArray 28 (0,0))] (by kernel_rfl) (by kernel_rfl) (by kernel_rfl) (by intro e he;(simp at he;simp [he];done)) ?_
  all_goals (apply dtm 0;(case hi|hx=>rfl);(case hq=>kernel_rfl);apply dtk 1;(case hi=>rfl);(case hop=>first|apply r_loadNo;(case hx=>rfl);(case h=>repeat exact mhd _);(case hd=>repeat first|with_reducible exact dt_nil|apply dt_here);(case hn=>rfl)|apply r_load1;rfl;(apply Cell.own;(case h=>repeat fail);rfl)|apply r_loadN;rfl;(apply CellsAt.own;(case h=>repeat fail));rfl);(case hq=>kernel_rfl))
  all_goals (apply dta 2;(case hi|hx=>rfl);(case hq=>kernel_rfl))
  all_goals (apply d_store 3;(case hi=>rfl);(case hr=>kernel_rfl);(case hL=>infer_instance);(case hp|hx|hc|hsz|h1=>rfl);(case hb=>repeat first|exact mhd _|apply mtl);(case hfit=>exact nle rfl);(case hov=>((repeat (first|with_reducible exact ov_nil|apply ov_cons));done));(case hu=>repeat first|exact Upd.here _ _|apply Upd.there);(case hν'=>intro e he;simp at he;simp [he]))
  all_goals (apply d_done;(case hr=>kernel_rfl))
  repeat' (fail)
  refine v_retM [] (outsM_tc (sz1:=6) (vs1:=[.int .i64 client,.int .i64 seq,.int .i64 0,.bool true,.string f.val,.int .i64 0]) (e1:=28) rfl rfl rfl (by repeat (first|exact mhd _|apply mtl)) rfl) (List.nil_sublist _) ⟨hle3,rfl,_,rfl,hw3⟩
 ·rw [if_neg (by assumption),if_pos (by assumption)]
  refine v_call (μ1:=[]) rfl qo (List.Perm.refl _) rfl ?_
  rintro v3 G3 _ hle3 ⟨-,rfl,hw3⟩
  repeat' (first|apply v_seq|apply v_region|apply v_nil|apply v_blk|apply v_pure;(case hop=>first|apply p_move<;>rfl|apply p_ge<;>rfl|apply p_assign<;>rfl|apply p_fieldAddrB<;>rfl|fail);(case hd=>rfl)|apply v_read;(case hop=>(apply r_load1;rfl;(apply Cell.own;(case h=>repeat first|exact mhd _|apply mtl);rfl)));(case hd=>rfl)|apply v_store;(case hp|hx|hc|hsz|h1=>rfl);(case hb=>repeat first|exact mhd _|apply mtl);(case hfit=>exact nle rfl);(case hov=>((repeat (first|with_reducible exact ov_nil|apply ov_cons));done));(case hu=>repeat first|exact Upd.here _ _|apply Upd.there)|fail)
  try rw [hdf]
  refine d_start [(b8,.cells [.int .i64 client,.int .i64 seq,.int .i64 0,.bool true,.string f.val,.int .i64 0].toArray 28 (0,0))] (by kernel_rfl) (by kernel_rfl) (by kernel_rfl) (by intro e he;(simp at he;simp [he];done)) ?_
  all_goals (apply dtm 0;(case hi|hx=>rfl);(case hq=>kernel_rfl);apply dtk 1;(case hi=>rfl);(case hop=>first|apply r_loadNo;(case hx=>rfl);(case h=>repeat exact mhd _);(case hd=>repeat first|with_reducible exact dt_nil|apply dt_here);(case hn=>rfl)|apply r_load1;rfl;(apply Cell.own;(case h=>repeat fail);rfl)|apply r_loadN;rfl;(apply CellsAt.own;(case h=>repeat fail));rfl);(case hq=>kernel_rfl))
  all_goals (apply dta 2;(case hi|hx=>rfl);(case hq=>kernel_rfl))
  all_goals (apply d_store 3;(case hi=>rfl);(case hr=>kernel_rfl);(case hL=>infer_instance);(case hp|hx|hc|hsz|h1=>rfl);(case hb=>repeat first|exact mhd _|apply mtl);(case hfit=>exact nle rfl);(case hov=>((repeat (first|with_reducible exact ov_nil|apply ov_cons));done));(case hu=>repeat first|exact Upd.here _ _|apply Upd.there);(case hν'=>intro e he;simp at he;simp [he]))
  all_goals (apply d_done;(case hr=>kernel_rfl))
  repeat' (fail)
  refine v_retM [] (outsM_tc (sz1:=6) (vs1:=[.int .i64 client,.int .i64 seq,.int .i64 0,.bool true,.string f.val,.int .i64 0]) (e1:=28) rfl rfl rfl (by repeat (first|exact mhd _|apply mtl)) rfl) (List.nil_sublist _) ⟨hle3,rfl,_,rfl,hw3⟩
 ·rw [if_neg (by assumption),if_neg (by assumption),if_pos (by assumption),if_neg (by assumption)]
  try rw [hdf]
  refine d_start [(b8,.cells [.int .i64 client,.int .i64 seq,.int .i64 15,.bool true,.string f.val,.int .i64 f.rev].toArray 28 (0,0))] (by kernel_rfl) (by kernel_rfl) (by kernel_rfl) (by intro e he;(simp at he;simp [he];done)) ?_
  all_goals (apply dtm 0;(case hi|hx=>rfl);(case hq=>kernel_rfl);apply dtk 1;(case hi=>rfl);(case hop=>first|apply r_loadNo;(case hx=>rfl);(case h=>repeat exact mhd _);(case hd=>repeat first|with_reducible exact dt_nil|apply dt_here);(case hn=>rfl)|apply r_load1;rfl;(apply Cell.own;(case h=>repeat fail);rfl)|apply r_loadN;rfl;(apply CellsAt.own;(case h=>repeat fail));rfl);(case hq=>kernel_rfl))
  all_goals (apply dta 2;(case hi|hx=>rfl);(case hq=>kernel_rfl))
  all_goals (apply d_store 3;(case hi=>rfl);(case hr=>kernel_rfl);(case hL=>infer_instance);(case hp|hx|hc|hsz|h1=>rfl);(case hb=>repeat first|exact mhd _|apply mtl);(case hfit=>exact nle rfl);(case hov=>((repeat (first|with_reducible exact ov_nil|apply ov_cons));done));(case hu=>repeat first|exact Upd.here _ _|apply Upd.there);(case hν'=>intro e he;simp at he;simp [he]))
  all_goals (apply d_done;(case hr=>kernel_rfl))
  repeat' (fail)
  refine v_retM [] (outsM_tc (sz1:=6) (vs1:=[.int .i64 client,.int .i64 seq,.int .i64 15,.bool true,.string f.val,.int .i64 f.rev]) (e1:=28) rfl rfl rfl (by repeat (first|exact mhd _|apply mtl)) rfl) (List.nil_sublist _) ⟨GH.le_refl _,rfl,_,rfl,hs⟩
 ·rw [if_neg (by assumption),if_neg (by assumption),if_pos (by assumption),if_pos (by assumption)]
  try rw [hdf]
  refine d_start [(b8,.cells [.int .i64 client,.int .i64 seq,.int .i64 0,.bool true,.string f.val,.int .i64 (f.rev+1)].toArray 28 (0,0)),(b11,.cells [.string key,.string val,.int .i64 (f.rev+1)].toArray 94 (0,0))] (by kernel_rfl) (by kernel_rfl) (by kernel_rfl) (by intro e he;(simp only [List.mem_cons,List.not_mem_nil,or_false] at he;rcases he with rfl|rfl<;>simp;done)) ?_
  all_goals (apply dtm 0;(case hi|hx=>rfl);(case hq=>kernel_rfl);apply dtk 1;(case hi=>rfl);(case hop=>first|apply r_loadNo;(case hx=>rfl);(case h=>repeat first|exact mhd _|apply mtl);(case hd=>repeat first|with_reducible exact dt_nil|apply dt_here);(case hn=>rfl)|apply r_load1;rfl;(apply Cell.own;(case h=>repeat fail);rfl)|apply r_loadN;rfl;(apply CellsAt.own;(case h=>repeat fail));rfl);(case hq=>kernel_rfl))
  all_goals (apply dtk 3;(case hi=>rfl);(case hop=>first|apply r_loadNo;(case hx=>rfl);(case h=>repeat exact mhd _);(case hd=>repeat first|with_reducible exact dt_nil|apply dt_here);(case hn=>rfl)|apply r_load1;rfl;(apply Cell.own;(case h=>repeat fail);rfl)|apply r_loadN;rfl;(apply CellsAt.own;(case h=>repeat fail));rfl);(case hq=>kernel_rfl))
  all_goals ((apply d_call 2 (hs:=qw) (μ1:=[]) (μ2:=[(b11,.cells [.string key,.string val,.int .i64 (f.rev+1)].toArray 94 (0,0)),(b10,.cells [.string f.key,.string f.val,.int .i64 f.rev].toArray 94 (0,0)),(b8,.cells [.int .i64 client,.int .i64 seq,.int .i64 0,.bool true,.string f.val,.int .i64 (f.rev+1)].toArray 28 (0,0)),(b7,.cells [.int .i64 0,.int .i64 0,.int .i64 0,.bool false,.string ByteArray.empty,.int .i64 0].toArray 28 (0,0)),(b5,.cells (Cm.cells ⟨kind,client,seq,key,val,old,node⟩).toArray 25 (0,0))]);(case hi=>rfl);(case hr=>kernel_rfl);(case ha=>rfl);(case hp=>exact List.Perm.refl _);(case hd=>rfl);(case hν'=>intro e he;simp only [List.mem_cons,List.not_mem_nil,or_false] at he;rcases he with rfl|rfl<;>simp);rintro v3 G3 _ hle3 ⟨-,rfl,hw3⟩))
  all_goals (apply dta 4;(case hi|hx=>rfl);(case hq=>kernel_rfl))
  all_goals (apply d_store 5;(case hi=>rfl);(case hr=>kernel_rfl);(case hL=>infer_instance);(case hp|hx|hc|hsz|h1=>rfl);(case hb=>repeat first|exact mhd _|apply mtl);(case hfit=>exact nle rfl);(case hov=>((repeat (first|with_reducible exact ov_nil|apply ov_cons));done));(case hu=>repeat first|exact Upd.here _ _|apply Upd.there);(case hν'=>intro e he;(simp only [List.mem_cons,List.not_mem_nil,or_false] at he;rcases he with rfl|rfl<;>simp;done)))
  all_goals (apply d_done;(case hr=>kernel_rfl))
  repeat' (fail)
  refine v_retM [] (outsM_tc (sz1:=6) (vs1:=[.int .i64 client,.int .i64 seq,.int .i64 0,.bool true,.string f.val,.int .i64 (f.rev+1)]) (e1:=28) rfl rfl rfl (by repeat (first|exact mhd _|apply mtl)) rfl) (List.nil_sublist _) ⟨hle3,rfl,_,rfl,hw3⟩
 ·rw [if_neg (by assumption),if_neg (by assumption),if_neg (by assumption)]
  try rw [hdf]
  refine d_start [(b8,.cells [.int .i64 client,.int .i64 seq,.int .i64 0,.bool true,.string f.val,.int .i64 0].toArray 28 (0,0))] (by kernel_rfl) (by kernel_rfl) (by kernel_rfl) (by intro e he;(simp at he;simp [he];done)) ?_
  all_goals (apply dtm 0;(case hi|hx=>rfl);(case hq=>kernel_rfl);apply dtk 1;(case hi=>rfl);(case hop=>first|apply r_loadNo;(case hx=>rfl);(case h=>repeat exact mhd _);(case hd=>repeat first|with_reducible exact dt_nil|apply dt_here);(case hn=>rfl)|apply r_load1;rfl;(apply Cell.own;(case h=>repeat fail);rfl)|apply r_loadN;rfl;(apply CellsAt.own;(case h=>repeat fail));rfl);(case hq=>kernel_rfl))
  all_goals (apply dta 2;(case hi|hx=>rfl);(case hq=>kernel_rfl))
  all_goals (apply d_store 3;(case hi=>rfl);(case hr=>kernel_rfl);(case hL=>infer_instance);(case hp|hx|hc|hsz|h1=>rfl);(case hb=>repeat first|exact mhd _|apply mtl);(case hfit=>exact nle rfl);(case hov=>((repeat (first|with_reducible exact ov_nil|apply ov_cons));done));(case hu=>repeat first|exact Upd.here _ _|apply Upd.there);(case hν'=>intro e he;simp at he;simp [he]))
  all_goals (apply d_done;(case hr=>kernel_rfl))
  repeat' (fail)
  refine v_retM [] (outsM_tc (sz1:=6) (vs1:=[.int .i64 client,.int .i64 seq,.int .i64 0,.bool true,.string f.val,.int .i64 0]) (e1:=28) rfl rfl rfl (by repeat (first|exact mhd _|apply mtl)) rfl) (List.nil_sublist _) ⟨GH.le_refl _,rfl,_,rfl,hs⟩
theorem doF2 {G:GH}{l:List Pr}{A:Option Addr}{c:Nat}(kind client seq:Int) (key val old:ByteArray) (node:Int) (hs:Prs G (.slice A l.length c) l) (hr:RiseW ksP l) (hz:Sized l) (hn:l.length≤200) (hkz:key.size≤200) (hk:2≤kind∧kind≤5) (i:Nat) (hi:i<l.length) (f:Pr) (hck:CellsG G ((adr A).add (i*3)) f.cells) (hrev:4294967296≤f.rev) (hrev2:f.rev≤4294967296)
 (qp:Con Tryz.prog 53 #[.slice A l.length c,.string key] G [] (Just (.int .i64 (i:Nat)) G)) :
 Con Tryz.prog 41 #[.int .i64 2,.slice A l.length c,.agg (Cm.cells ⟨kind,client,seq,key,val,old,node⟩).toArray] G [] (DoPost G (if kind=2 then (withG ksP l ⟨key,val,f.rev⟩,⟨client,seq,0,true,f.val,0⟩) else if kind=4 then (l.filter (fun x=>decide (ksP x≠kn key)),⟨client,seq,0,true,f.val,0⟩) else if kind=5 then (if f.val=old then (withG ksP l ⟨key,val,f.rev⟩,⟨client,seq,0,true,f.val,f.rev⟩) else (l,⟨client,seq,15,true,f.val,f.rev⟩)) else (l,⟨client,seq,0,true,f.val,0⟩):List Pr×An)):=by
 obtain ⟨B0,e0,e,hlc,hcm,hsome,hcp⟩:=rowOpen hs
 cases e
 simp only [maxLen] at hcm
 have qw:=refPWith_s ⟨key,val,f.rev⟩ hs hr hn hz hkz
 have qo:=refWithout_s key hs hn hz hkz
 have e1:((i:Nat):Int).toNat=i:=by omega
 have hA:=hsome (by omega)
 skip
 have hdf:dec ((0:Int)≤(i:Nat))=true:=dec_pos (by omega)
 (refine v_enter Tryz.func41 rfl Tryz.ntmps41 rfl ?_;intro B _)
 repeat' (first|apply v_box (d:=5) (zs:=Cm.cells ⟨kind,client,seq,key,val,old,node⟩);(case hx|hz|hd=>rfl);intro b5|apply v_alloc (d:=7);(case hz|hd=>rfl);intro b7|apply v_alloc (d:=8);(case hz|hd=>rfl);intro b8|apply v_alloc (d:=10);(case hz|hd=>rfl);intro b10|apply v_alloc (d:=11);(case hz|hd=>rfl);intro b11|apply v_read;(case hop=>(apply r_loadNo;(case hx=>rfl);(case h=>repeat (exact mhd _));(case hd|hn=>rfl)));(case hd=>rfl)|apply v_seq|apply v_region|apply v_nil|apply v_skip|apply v_block|apply v_blk|apply v_take;(case hg=>rfl)|apply v_pass;(case hg|hn|hd=>rfl)|apply v_pure;(case hop=>first|apply p_move<;>rfl|apply p_eqs<;>rfl|apply p_eq<;>rfl|apply p_lt<;>rfl|apply p_ne<;>rfl|apply p_ge<;>rfl|apply p_assign<;>rfl|apply p_pickT<;>rfl|apply p_pickF<;>rfl|apply p_fieldAddrB<;>rfl|apply p_indexAddrS;(case hx|hi=>rfl);(case h0|h=>omega);(case hA=>assumption)|apply p_build;(case hz=>rfl);(case hv=>(simp only [List.map_cons,List.map_nil];repeat (first|with_reducible exact evs_nil|apply evs_cons;(case h1=>rfl))));(case hb=>(apply bldL;repeat (first|exact bld_nil|apply bld_cons;(case hpf|hc|hs|hl=>rfl);(case ho=>((repeat (first|with_reducible exact ov_nil|apply ov_cons));done)))))|apply p_neS<;>rfl|fail);(case hd=>rfl)|apply v_condT;(case hc=>rfl)|apply v_condF;(case hc=>rfl)|apply v_cond;(case hc=>rfl);all_goals (intro h;(try simp only [reduceCtorEq,zzz] at h);try (exfalso;omega))|apply v_guardB;(case h1|h2=>rfl);all_goals (intro h;(try simp only [reduceCtorEq,zzz] at h);try (exfalso;omega))|apply v_read;(case hop=>(apply r_loadN;rfl;exact CellsAt.frozen hck;rfl));(case hd=>rfl)|apply v_callJ (hs:=qp);(case ha|hd=>rfl)|apply v_read;(case hop=>(apply r_load1;rfl;(apply Cell.own;(case h=>repeat first|exact mhd _|apply mtl);rfl)));(case hd=>rfl)|apply v_store;(case hp|hx|hc|hsz|h1=>rfl);(case hb=>repeat first|exact mhd _|apply mtl);(case hfit=>exact nle rfl);(case hov=>((repeat (first|with_reducible exact ov_nil|apply ov_cons));done));(case hu=>repeat first|exact Upd.here _ _|apply Upd.there)|fail)
 ·rw [if_pos (by assumption)]
  refine v_call (μ1:=[]) rfl qw (List.Perm.refl _) rfl ?_
  rintro v3 G3 _ hle3 ⟨-,rfl,hw3⟩
  repeat' (first|apply v_seq|apply v_region|apply v_nil|apply v_blk|apply v_pure;(case hop=>first|apply p_move<;>rfl|apply p_ge<;>rfl|apply p_assign<;>rfl|apply p_fieldAddrB<;>rfl|fail);(case hd=>rfl)|apply v_read;(case hop=>(apply r_load1;rfl;(apply Cell.own;(case h=>repeat first|exact mhd _|apply mtl);rfl)));(case hd=>rfl)|apply v_store;(case hp|hx|hc|hsz|h1=>rfl);(case hb=>repeat first|exact mhd _|apply mtl);(case hfit=>exact nle rfl);(case hov=>((repeat (first|with_reducible exact ov_nil|apply ov_cons));done));(case hu=>repeat first|exact Upd.here _ _|apply Upd.there)|fail)
  try rw [hdf]
  refine d_start [(b8,.cells [.int .i64 client,.int .i64 seq,.int .i64 0,.bool true,.string f.val,.int .i64 0].toArray 28 (0,0))] (by kernel_rfl) (by kernel_rfl) (by kernel_rfl) (by intro e he;(simp at he;simp [he];done)) ?_
  all_goals (apply dtm 0;(case hi|hx=>rfl);(case hq=>kernel_rfl);apply dtk 1;(case hi=>rfl);(case hop=>first|apply r_loadNo;(case hx=>rfl);(case h=>repeat exact mhd _);(case hd=>repeat first|with_reducible exact dt_nil|apply dt_here);(case hn=>rfl)|apply r_load1;rfl;(apply Cell.own;(case h=>repeat fail);rfl)|apply r_loadN;rfl;(apply CellsAt.own;(case h=>repeat fail));rfl);(case hq=>kernel_rfl))
  all_goals (apply dta 2;(case hi|hx=>rfl);(case hq=>kernel_rfl))
  all_goals (apply d_store 3;(case hi=>rfl);(case hr=>kernel_rfl);(case hL=>infer_instance);(case hp|hx|hc|hsz|h1=>rfl);(case hb=>repeat first|exact mhd _|apply mtl);(case hfit=>exact nle rfl);(case hov=>((repeat (first|with_reducible exact ov_nil|apply ov_cons));done));(case hu=>repeat first|exact Upd.here _ _|apply Upd.there);(case hν'=>intro e he;simp at he;simp [he]))
  all_goals (apply d_done;(case hr=>kernel_rfl))
  repeat' (fail)
  refine v_retM [] (outsM_tc (sz1:=6) (vs1:=[.int .i64 client,.int .i64 seq,.int .i64 0,.bool true,.string f.val,.int .i64 0]) (e1:=28) rfl rfl rfl (by repeat (first|exact mhd _|apply mtl)) rfl) (List.nil_sublist _) ⟨hle3,rfl,_,rfl,hw3⟩
 ·rw [if_neg (by assumption),if_pos (by assumption)]
  refine v_call (μ1:=[]) rfl qo (List.Perm.refl _) rfl ?_
  rintro v3 G3 _ hle3 ⟨-,rfl,hw3⟩
  repeat' (first|apply v_seq|apply v_region|apply v_nil|apply v_blk|apply v_pure;(case hop=>first|apply p_move<;>rfl|apply p_ge<;>rfl|apply p_assign<;>rfl|apply p_fieldAddrB<;>rfl|fail);(case hd=>rfl)|apply v_read;(case hop=>(apply r_load1;rfl;(apply Cell.own;(case h=>repeat first|exact mhd _|apply mtl);rfl)));(case hd=>rfl)|apply v_store;(case hp|hx|hc|hsz|h1=>rfl);(case hb=>repeat first|exact mhd _|apply mtl);(case hfit=>exact nle rfl);(case hov=>((repeat (first|with_reducible exact ov_nil|apply ov_cons));done));(case hu=>repeat first|exact Upd.here _ _|apply Upd.there)|fail)
  try rw [hdf]
  refine d_start [(b8,.cells [.int .i64 client,.int .i64 seq,.int .i64 0,.bool true,.string f.val,.int .i64 0].toArray 28 (0,0))] (by kernel_rfl) (by kernel_rfl) (by kernel_rfl) (by intro e he;(simp at he;simp [he];done)) ?_
  all_goals (apply dtm 0;(case hi|hx=>rfl);(case hq=>kernel_rfl);apply dtk 1;(case hi=>rfl);(case hop=>first|apply r_loadNo;(case hx=>rfl);(case h=>repeat exact mhd _);(case hd=>repeat first|with_reducible exact dt_nil|apply dt_here);(case hn=>rfl)|apply r_load1;rfl;(apply Cell.own;(case h=>repeat fail);rfl)|apply r_loadN;rfl;(apply CellsAt.own;(case h=>repeat fail));rfl);(case hq=>kernel_rfl))
  all_goals (apply dta 2;(case hi|hx=>rfl);(case hq=>kernel_rfl))
  all_goals (apply d_store 3;(case hi=>rfl);(case hr=>kernel_rfl);(case hL=>infer_instance);(case hp|hx|hc|hsz|h1=>rfl);(case hb=>repeat first|exact mhd _|apply mtl);(case hfit=>exact nle rfl);(case hov=>((repeat (first|with_reducible exact ov_nil|apply ov_cons));done));(case hu=>repeat first|exact Upd.here _ _|apply Upd.there);(case hν'=>intro e he;simp at he;simp [he]))
  all_goals (apply d_done;(case hr=>kernel_rfl))
  repeat' (fail)
  refine v_retM [] (outsM_tc (sz1:=6) (vs1:=[.int .i64 client,.int .i64 seq,.int .i64 0,.bool true,.string f.val,.int .i64 0]) (e1:=28) rfl rfl rfl (by repeat (first|exact mhd _|apply mtl)) rfl) (List.nil_sublist _) ⟨hle3,rfl,_,rfl,hw3⟩
 ·rw [if_neg (by assumption),if_neg (by assumption),if_pos (by assumption),if_neg (by assumption)]
  try rw [hdf]
  refine d_start [(b8,.cells [.int .i64 client,.int .i64 seq,.int .i64 15,.bool true,.string f.val,.int .i64 f.rev].toArray 28 (0,0))] (by kernel_rfl) (by kernel_rfl) (by kernel_rfl) (by intro e he;(simp at he;simp [he];done)) ?_
  all_goals (apply dtm 0;(case hi|hx=>rfl);(case hq=>kernel_rfl);apply dtk 1;(case hi=>rfl);(case hop=>first|apply r_loadNo;(case hx=>rfl);(case h=>repeat exact mhd _);(case hd=>repeat first|with_reducible exact dt_nil|apply dt_here);(case hn=>rfl)|apply r_load1;rfl;(apply Cell.own;(case h=>repeat fail);rfl)|apply r_loadN;rfl;(apply CellsAt.own;(case h=>repeat fail));rfl);(case hq=>kernel_rfl))
  all_goals (apply dta 2;(case hi|hx=>rfl);(case hq=>kernel_rfl))
  all_goals (apply d_store 3;(case hi=>rfl);(case hr=>kernel_rfl);(case hL=>infer_instance);(case hp|hx|hc|hsz|h1=>rfl);(case hb=>repeat first|exact mhd _|apply mtl);(case hfit=>exact nle rfl);(case hov=>((repeat (first|with_reducible exact ov_nil|apply ov_cons));done));(case hu=>repeat first|exact Upd.here _ _|apply Upd.there);(case hν'=>intro e he;simp at he;simp [he]))
  all_goals (apply d_done;(case hr=>kernel_rfl))
  repeat' (fail)
  refine v_retM [] (outsM_tc (sz1:=6) (vs1:=[.int .i64 client,.int .i64 seq,.int .i64 15,.bool true,.string f.val,.int .i64 f.rev]) (e1:=28) rfl rfl rfl (by repeat (first|exact mhd _|apply mtl)) rfl) (List.nil_sublist _) ⟨GH.le_refl _,rfl,_,rfl,hs⟩
 ·rw [if_neg (by assumption),if_neg (by assumption),if_pos (by assumption),if_pos (by assumption)]
  try rw [hdf]
  refine d_start [(b8,.cells [.int .i64 client,.int .i64 seq,.int .i64 0,.bool true,.string f.val,.int .i64 f.rev].toArray 28 (0,0)),(b11,.cells [.string key,.string val,.int .i64 f.rev].toArray 94 (0,0))] (by kernel_rfl) (by kernel_rfl) (by kernel_rfl) (by intro e he;(simp only [List.mem_cons,List.not_mem_nil,or_false] at he;rcases he with rfl|rfl<;>simp;done)) ?_
  all_goals (apply dtm 0;(case hi|hx=>rfl);(case hq=>kernel_rfl);apply dtk 1;(case hi=>rfl);(case hop=>first|apply r_loadNo;(case hx=>rfl);(case h=>repeat first|exact mhd _|apply mtl);(case hd=>repeat first|with_reducible exact dt_nil|apply dt_here);(case hn=>rfl)|apply r_load1;rfl;(apply Cell.own;(case h=>repeat fail);rfl)|apply r_loadN;rfl;(apply CellsAt.own;(case h=>repeat fail));rfl);(case hq=>kernel_rfl))
  all_goals (apply dtk 3;(case hi=>rfl);(case hop=>first|apply r_loadNo;(case hx=>rfl);(case h=>repeat exact mhd _);(case hd=>repeat first|with_reducible exact dt_nil|apply dt_here);(case hn=>rfl)|apply r_load1;rfl;(apply Cell.own;(case h=>repeat fail);rfl)|apply r_loadN;rfl;(apply CellsAt.own;(case h=>repeat fail));rfl);(case hq=>kernel_rfl))
  all_goals ((apply d_call 2 (hs:=qw) (μ1:=[]) (μ2:=[(b11,.cells [.string key,.string val,.int .i64 f.rev].toArray 94 (0,0)),(b10,.cells [.string f.key,.string f.val,.int .i64 f.rev].toArray 94 (0,0)),(b8,.cells [.int .i64 client,.int .i64 seq,.int .i64 0,.bool true,.string f.val,.int .i64 f.rev].toArray 28 (0,0)),(b7,.cells [.int .i64 0,.int .i64 0,.int .i64 0,.bool false,.string ByteArray.empty,.int .i64 0].toArray 28 (0,0)),(b5,.cells (Cm.cells ⟨kind,client,seq,key,val,old,node⟩).toArray 25 (0,0))]);(case hi=>rfl);(case hr=>kernel_rfl);(case ha=>rfl);(case hp=>exact List.Perm.refl _);(case hd=>rfl);(case hν'=>intro e he;simp only [List.mem_cons,List.not_mem_nil,or_false] at he;rcases he with rfl|rfl<;>simp);rintro v3 G3 _ hle3 ⟨-,rfl,hw3⟩))
  all_goals (apply dta 4;(case hi|hx=>rfl);(case hq=>kernel_rfl))
  all_goals (apply d_store 5;(case hi=>rfl);(case hr=>kernel_rfl);(case hL=>infer_instance);(case hp|hx|hc|hsz|h1=>rfl);(case hb=>repeat first|exact mhd _|apply mtl);(case hfit=>exact nle rfl);(case hov=>((repeat (first|with_reducible exact ov_nil|apply ov_cons));done));(case hu=>repeat first|exact Upd.here _ _|apply Upd.there);(case hν'=>intro e he;(simp only [List.mem_cons,List.not_mem_nil,or_false] at he;rcases he with rfl|rfl<;>simp;done)))
  all_goals (apply d_done;(case hr=>kernel_rfl))
  repeat' (fail)
  refine v_retM [] (outsM_tc (sz1:=6) (vs1:=[.int .i64 client,.int .i64 seq,.int .i64 0,.bool true,.string f.val,.int .i64 f.rev]) (e1:=28) rfl rfl rfl (by repeat (first|exact mhd _|apply mtl)) rfl) (List.nil_sublist _) ⟨hle3,rfl,_,rfl,hw3⟩
 ·rw [if_neg (by assumption),if_neg (by assumption),if_neg (by assumption)]
  try rw [hdf]
  refine d_start [(b8,.cells [.int .i64 client,.int .i64 seq,.int .i64 0,.bool true,.string f.val,.int .i64 0].toArray 28 (0,0))] (by kernel_rfl) (by kernel_rfl) (by kernel_rfl) (by intro e he;(simp at he;simp [he];done)) ?_
  all_goals (apply dtm 0;(case hi|hx=>rfl);(case hq=>kernel_rfl);apply dtk 1;(case hi=>rfl);(case hop=>first|apply r_loadNo;(case hx=>rfl);(case h=>repeat exact mhd _);(case hd=>repeat first|with_reducible exact dt_nil|apply dt_here);(case hn=>rfl)|apply r_load1;rfl;(apply Cell.own;(case h=>repeat fail);rfl)|apply r_loadN;rfl;(apply CellsAt.own;(case h=>repeat fail));rfl);(case hq=>kernel_rfl))
  all_goals (apply dta 2;(case hi|hx=>rfl);(case hq=>kernel_rfl))
  all_goals (apply d_store 3;(case hi=>rfl);(case hr=>kernel_rfl);(case hL=>infer_instance);(case hp|hx|hc|hsz|h1=>rfl);(case hb=>repeat first|exact mhd _|apply mtl);(case hfit=>exact nle rfl);(case hov=>((repeat (first|with_reducible exact ov_nil|apply ov_cons));done));(case hu=>repeat first|exact Upd.here _ _|apply Upd.there);(case hν'=>intro e he;simp at he;simp [he]))
  all_goals (apply d_done;(case hr=>kernel_rfl))
  repeat' (fail)
  refine v_retM [] (outsM_tc (sz1:=6) (vs1:=[.int .i64 client,.int .i64 seq,.int .i64 0,.bool true,.string f.val,.int .i64 0]) (e1:=28) rfl rfl rfl (by repeat (first|exact mhd _|apply mtl)) rfl) (List.nil_sublist _) ⟨GH.le_refl _,rfl,_,rfl,hs⟩
theorem psOk_sized {z:Int}{l:List Pr}(h:PsOk z l):Sized l:=fun x hx=>by
 have:=(h.2.2 x hx).1
 have a:=keyB_size this.1
 have b:=valB_size this.2
 omega
theorem refDo_s {G:GH}{l:List Pr}{sv:Value}{z:Int}(c:Cm) (hs:Prs G sv l) (hok:PsOk z l) (hz:z=1∨z=2) (hk:2≤c.kind∧c.kind≤5) (h5:c.kind=5→z=2) (hkz:c.key.size≤200) :
 Con Tryz.prog 41 #[.int .i64 z,sv,.agg c.cells.toArray] G [] (DoPost G (doS z l c)):=by
 have hsz:=psOk_sized hok
 have hn:l.length≤200:=by have:=hok.1;omega
 have qp:=refPlace_s c.key hs hok.2.1 hsz hkz
 rw [doR_eq c hz hk h5]
 unfold doR prR
 obtain ⟨A,c0,rfl,hlc,hcm,hsome,hcp⟩:=rowOpen hs
 obtain ⟨kind,client,seq,key,val,old,node⟩:=c
 simp only at *
 cases hh:hitG ksP l (kn key) with
 | false =>
  have hf:findP l (kn key)=zeroPr:=by unfold findP;rw [dif_neg (by rw [hh];simp)]
  rw [hh,if_neg (by simp)] at qp
  rw [hf]
  have e2:nextR zeroPr.rev=1:=by decide
  rcases hz with rfl|rfl
  ·have:=doN1 kind client seq key val old node hs hok.2.1 hsz hn hkz hk (fun h=>absurd (h5 h) (by omega)) qp
   simpa [ans0,zeroPr] using this
  ·have:=doN2 kind client seq key val old node hs hok.2.1 hsz hn hkz hk qp
   rw [e2]
   simpa [ans0,zeroPr] using this
 | true =>
  have hlt:=hitG_lt hh
  have hf:findP l (kn key)=l[placeG ksP l (kn key)]:=by unfold findP;rw [dif_pos hh]
  rw [hh,if_pos rfl] at qp
  rw [hf]
  have hck:=hcp _ hlt
  have hrev:=(hok.2.2 _ (List.getElem_mem hlt)).2
  unfold RevOk at hrev
  generalize l[placeG ksP l (kn key)]=f at *
  generalize placeG ksP l (kn key)=i at *
  rcases hz with rfl|rfl
  ·have:=doH1 kind client seq key val old node hs hok.2.1 hsz hn hkz hk (fun h=>absurd (h5 h) (by omega)) i hlt f hck qp
   simpa [ans0] using this
  ·by_cases hb:f.rev<4294967296
   ·have e2:nextR f.rev=f.rev+1:=by unfold nextR;omega
    have:=doH2 kind client seq key val old node hs hok.2.1 hsz hn hkz hk i hlt f hck hb (by omega) qp
    rw [e2]
    simpa [ans0] using this
   ·have e2:nextR f.rev=f.rev:=by unfold nextR;omega
    have:=doF2 kind client seq key val old node hs hok.2.1 hsz hn hkz hk i hlt f hck (by omega) (by omega) qp
    rw [e2]
    simpa [ans0] using this
theorem which_last {l:List Ss}(h:SesP l) {n q:Int}(hq:1≤q) :
 ((whichS l n q).1=1↔(0<(lastS l n).1∧q=(lastS l n).1))∧((whichS l n q).1=2↔q<(lastS l n).1)∧((whichS l n q).1=1→(whichS l n q).2=(lastS l n).2):=by
 unfold whichS lastS
 cases hh:hitG ksS l n with
 | false=>simp;omega
 | true =>
  have hm:=sesAt_mem (riseG_pw.1 (adjS_rise h.1)) hh
  obtain ⟨h1,h2,h3⟩:=h.2 _ hm.1
  have h4:=(ansI_zero.1 h3).1.2.1
  simp only [Bool.true_eq_false,if_false,if_true]
  by_cases a:(sesAt l n).seq<q
  ·rw [if_pos a];simp;omega
  ·rw [if_neg a]
   by_cases b:q=(sesAt l n).seq
   ·rw [if_pos b];simp;omega
   ·rw [if_neg b];simp;omega
set_option maxHeartbeats 1000000 in
theorem refApply_s {G:GH}{s:St}{v:Value}(c:Cm) (hs:StV G s v) (hok:StP s) (hc:cmdI c=0) (hkz:c.key.size≤200) :
 Con Tryz.prog 19 #[v,.agg c.cells.toArray] G [] (fun r G' μ'=>GH.le G G'∧μ'=[]∧∃ v',r=.tuple [v',.agg (applyS s c).2.1.cells.toArray].toArray∧StV G' (applyS s c).1 v'):=by
 obtain ⟨A,c0,A',c',rfl,hp,hss⟩:=id hs
 obtain ⟨h1,h2,h3,h4⟩:=stP_iff.1 hok
 have hrw:=riseG_pw.1 (adjS_rise h1.1)
 have qo:=owned_s G c.kind
 have qh:=refHas7_s s.schema c.kind G
 have ql:=refLast_s c.client hss hrw
 have qr:=refRevs_s 2 1 hs (by have:=h3.1;omega)
 have qd:=fun a b=>refDo_s (z:=s.schema) c hp h3 h2 a b hkz
 have qs:=fun G' (hle:GH.le G G') a=>refSWith_s a (hss.mono hle) hrw (by have:=sesP_few h1;omega)
 have hc':=(cmd_ok hc).2.1
 have hwl:=fun (hq:1≤c.seq)=>which_last (n:=c.client) (q:=c.seq) h1 hq
 have hup:revsS s 2 1=upS s:=rfl
 have hvs:verS s.schema=s.schema:=by unfold verS;rcases h2 with h|h<;>rw [h]<;>simp
 unfold applyS clientS
 rw [if_neg (by simp [hc]),hvs]
 clear hc hvs
 obtain ⟨schema,lp,ls⟩:=s
 obtain ⟨kind,cl,seq,key,val,old,node⟩:=c
 simp only at *
 generalize whichS ls cl seq=w at *
 obtain ⟨wk,wa⟩:=w
 generalize lastS ls cl=la at *
 obtain ⟨lq,⟨ac,aq,ae,af,av,ar⟩⟩:=la
 generalize doS schema lp ⟨kind,cl,seq,key,val,old,node⟩=dd at *
 obtain ⟨l1,d⟩:=dd
 obtain ⟨dc,dq,de,df,dv,dr⟩:=d
 simp only at *
 (refine v_enter Tryz.func19 rfl Tryz.ntmps19 rfl ?_;intro B _)
 by_cases ho:2≤kind∧kind≤5
 ·rw [decide_eq_true ho] at qo
  rw [if_pos ho]
  obtain ⟨hc1,hc2,hc3⟩:=hc' ho
  obtain ⟨w1,w2,w3⟩:=hwl hc2.1
  by_cases hh:HasP schema kind
  ·rw [decide_eq_true hh] at qh
   repeat' (first|apply v_box (d:=2) (zs:=[.int .i64 schema,.slice A lp.length c0,.slice A' ls.length c']);(case hx|hz|hd=>rfl);intro b2|apply v_box (d:=3) (zs:=Cm.cells ⟨kind,cl,seq,key,val,old,node⟩);(case hx|hz|hd=>rfl);intro b3|apply v_alloc (d:=4);(case hz|hd=>rfl);intro b4|apply v_alloc (d:=5);(case hz|hd=>rfl);intro b5|apply v_alloc (d:=7);(case hz|hd=>rfl);intro b7|apply v_alloc (d:=8);(case hz|hd=>rfl);intro b8|apply v_read;(case hop=>(apply r_loadNo;(case hx=>rfl);(case h=>repeat first|exact mhd _|apply mtl);(case hd|hn=>rfl)));(case hd=>rfl)|apply v_seq|apply v_region|apply v_nil|apply v_skip|apply v_take;(case hg=>rfl)|apply v_pass;(case hg|hn|hd=>rfl)|apply v_pure;(case hop=>first|apply p_move<;>rfl|apply p_eq<;>rfl|apply p_lt<;>rfl|apply p_gt<;>rfl|apply p_assign<;>rfl|apply p_pickT<;>rfl|apply p_pickF<;>rfl|apply p_not<;>rfl|apply p_fieldAddrB<;>rfl|apply p_extract0<;>rfl|apply p_extract1<;>rfl|apply p_build;(case hz=>rfl);(case hv=>(simp only [List.map_cons,List.map_nil];repeat (first|with_reducible exact evs_nil|apply evs_cons;(case h1=>rfl))));(case hb=>(apply bldL;repeat (first|exact bld_nil|apply bld_cons;(case hpf|hc|hs|hl=>rfl);(case ho=>((repeat (first|with_reducible exact ov_nil|apply ov_cons));done)))))|fail);(case hd=>rfl)|apply v_condF;(case hc=>rfl)|apply v_cond;(case hc=>rfl);all_goals (intro h;(try simp only [reduceCtorEq,zzz] at h);try (exfalso;omega))|apply v_guardB;(case h1|h2=>rfl);all_goals (intro h;(try simp only [reduceCtorEq,zzz] at h))|apply v_callJ (hs:=qo);(case ha|hd=>rfl)|apply v_callJ (hs:=qh);(case ha|hd=>rfl)|apply v_callJ (hs:=ql);(case ha|hd=>rfl)|apply v_read;(case hop=>(apply r_load1;rfl;(apply Cell.own;(case h=>repeat first|exact mhd _|apply mtl);rfl)));(case hd=>rfl)|apply v_store;(case hp|hx|hc|hsz|h1=>rfl);(case hb=>repeat exact mhd _);(case hfit=>exact nle rfl);(case hov=>((repeat (first|with_reducible exact ov_nil|apply ov_cons));done));(case hu=>repeat (exact Upd.here _ _))|fail)
   ·have hw1:wk=1:=w1.2 ⟨by omega,by omega⟩
    obtain rfl:=w3 hw1
    rw [if_pos hw1]
    refine d_start [(b2,.cells [.int .i64 schema,.slice A lp.length c0,.slice A' ls.length c'].toArray 39 (0,0)),(b7,.cells [.int .i64 ac,.int .i64 aq,.int .i64 ae,.bool af,.string av,.int .i64 ar].toArray 28 (0,0))] (by kernel_rfl) (by kernel_rfl) (by kernel_rfl) (by intro e he;(simp only [List.mem_cons,List.not_mem_nil,or_false] at he;rcases he with rfl|rfl<;>simp;done)) ?_
    all_goals (apply dtk 0;(case hi=>rfl);(case hop=>first|apply r_loadNo;(case hx=>rfl);(case h=>repeat exact mhd _);(case hd=>repeat first|with_reducible exact dt_nil|apply dt_here);(case hn=>rfl)|apply r_load1;rfl;(apply Cell.own;(case h=>repeat fail);rfl)|apply r_loadN;rfl;(apply CellsAt.own;(case h=>repeat fail));rfl);(case hq=>kernel_rfl);apply dtk 1;(case hi=>rfl);(case hop=>first|apply r_loadNo;(case hx=>rfl);(case h=>repeat first|exact mhd _|apply mtl);(case hd=>repeat first|with_reducible exact dt_nil|apply dt_here);(case hn=>rfl)|apply r_load1;rfl;(apply Cell.own;(case h=>repeat fail);rfl)|apply r_loadN;rfl;(apply CellsAt.own;(case h=>repeat fail));rfl);(case hq=>kernel_rfl))
    all_goals (apply d_store 2;(case hi=>rfl);(case hr=>kernel_rfl);(case hL=>infer_instance);(case hp|hx|hc|hsz|h1=>rfl);(case hb=>repeat first|exact mhd _|apply mtl);(case hfit=>exact nle rfl);(case hov=>((repeat (first|with_reducible exact ov_nil|apply ov_cons));done));(case hu=>repeat first|exact Upd.here _ _|apply Upd.there);(case hν'=>intro e he;(simp only [List.mem_cons,List.not_mem_nil,or_false] at he;rcases he with rfl|rfl<;>simp;done)))
    all_goals (apply d_store 3;(case hi=>rfl);(case hr=>kernel_rfl);(case hL=>infer_instance);(case hp|hx|hc|hsz|h1=>rfl);(case hb=>repeat first|exact mhd _|apply mtl);(case hfit=>exact nle rfl);(case hov=>((repeat (first|with_reducible exact ov_nil|apply ov_cons));done));(case hu=>repeat first|exact Upd.here _ _|apply Upd.there);(case hν'=>intro e he;(simp only [List.mem_cons,List.not_mem_nil,or_false] at he;rcases he with rfl|rfl<;>simp;done)))
    all_goals (apply d_done;(case hr=>kernel_rfl))
    repeat' (fail)
    refine v_retM [] (outsM_cc (sz0:=3) (vs0:=[.int .i64 schema,.slice A lp.length c0,.slice A' ls.length c']) (e0:=39) (sz1:=6) (vs1:=[.int .i64 ac,.int .i64 aq,.int .i64 ae,.bool af,.string av,.int .i64 ar]) (e1:=28) rfl rfl (by repeat (first|exact mhd _|apply mtl)) rfl rfl (by repeat (first|exact mhd _|apply mtl)) rfl) (List.nil_sublist _) ⟨GH.le_refl _,rfl,_,rfl,hs⟩
   ·rw [if_neg (fun h=>by have:=w1.1 h;omega),if_pos (w2.2 (by omega))]
    refine d_start [(b2,.cells [.int .i64 schema,.slice A lp.length c0,.slice A' ls.length c'].toArray 39 (0,0)),(b8,.cells [.int .i64 cl,.int .i64 seq,.int .i64 15,.bool false,.string ByteArray.empty,.int .i64 0].toArray 28 (0,0))] (by kernel_rfl) (by kernel_rfl) (by kernel_rfl) (by intro e he;(simp only [List.mem_cons,List.not_mem_nil,or_false] at he;rcases he with rfl|rfl<;>simp;done)) ?_
    all_goals (apply dtk 0;(case hi=>rfl);(case hop=>first|apply r_loadNo;(case hx=>rfl);(case h=>repeat exact mhd _);(case hd=>repeat first|with_reducible exact dt_nil|apply dt_here);(case hn=>rfl)|apply r_load1;rfl;(apply Cell.own;(case h=>repeat fail);rfl)|apply r_loadN;rfl;(apply CellsAt.own;(case h=>repeat fail));rfl);(case hq=>kernel_rfl);apply dtk 1;(case hi=>rfl);(case hop=>first|apply r_loadNo;(case hx=>rfl);(case h=>repeat first|exact mhd _|apply mtl);(case hd=>repeat first|with_reducible exact dt_nil|apply dt_here);(case hn=>rfl)|apply r_load1;rfl;(apply Cell.own;(case h=>repeat fail);rfl)|apply r_loadN;rfl;(apply CellsAt.own;(case h=>repeat fail));rfl);(case hq=>kernel_rfl))
    all_goals (apply d_store 2;(case hi=>rfl);(case hr=>kernel_rfl);(case hL=>infer_instance);(case hp|hx|hc|hsz|h1=>rfl);(case hb=>repeat first|exact mhd _|apply mtl);(case hfit=>exact nle rfl);(case hov=>((repeat (first|with_reducible exact ov_nil|apply ov_cons));done));(case hu=>repeat first|exact Upd.here _ _|apply Upd.there);(case hν'=>intro e he;(simp only [List.mem_cons,List.not_mem_nil,or_false] at he;rcases he with rfl|rfl<;>simp;done)))
    all_goals (apply d_store 3;(case hi=>rfl);(case hr=>kernel_rfl);(case hL=>infer_instance);(case hp|hx|hc|hsz|h1=>rfl);(case hb=>repeat first|exact mhd _|apply mtl);(case hfit=>exact nle rfl);(case hov=>((repeat (first|with_reducible exact ov_nil|apply ov_cons));done));(case hu=>repeat first|exact Upd.here _ _|apply Upd.there);(case hν'=>intro e he;(simp only [List.mem_cons,List.not_mem_nil,or_false] at he;rcases he with rfl|rfl<;>simp;done)))
    all_goals (apply d_done;(case hr=>kernel_rfl))
    repeat' (fail)
    refine v_retM [] (outsM_cc (sz0:=3) (vs0:=[.int .i64 schema,.slice A lp.length c0,.slice A' ls.length c']) (e0:=39) (sz1:=6) (vs1:=[.int .i64 cl,.int .i64 seq,.int .i64 15,.bool false,.string ByteArray.empty,.int .i64 0]) (e1:=28) rfl rfl (by repeat (first|exact mhd _|apply mtl)) rfl rfl (by repeat (first|exact mhd _|apply mtl)) rfl) (List.nil_sublist _) ⟨GH.le_refl _,rfl,_,rfl,hs⟩
   ·rw [if_neg (fun h=>by have:=w1.1 h;omega),if_neg (fun h=>by have:=w2.1 h;omega),if_pos hh]
    refine v_call (μ1:=[]) rfl (qd ho (fun h=>by have:=hh.2.2.2 h;omega)) (List.Perm.refl _) rfl ?_
    rintro _ G3 _ hle3 ⟨-,rfl,v3,rfl,hp3⟩
    obtain ⟨A3,c3,rfl,-⟩:=id hp3.open
    have qw:=qs G3 hle3 ⟨dc,dq,de,df,dv,dr⟩
    repeat' (first|apply v_alloc (d:=10);(case hz|hd=>rfl);intro b10|apply v_seq|apply v_nil|apply v_pure;(case hop=>first|apply p_move<;>rfl|apply p_assign<;>rfl|apply p_extract0<;>rfl|apply p_extract1<;>rfl|fail);(case hd=>rfl)|apply v_store;(case hp|hx|hc|hsz|h1=>rfl);(case hb=>repeat exact mhd _);(case hfit=>exact nle rfl);(case hov=>((repeat (first|with_reducible exact ov_nil|apply ov_cons));done));(case hu=>repeat (exact Upd.here _ _))|fail)
    refine d_start [(b2,.cells [.int .i64 schema,.slice A lp.length c0,.slice A' ls.length c'].toArray 39 (0,0)),(b10,.cells [.int .i64 dc,.int .i64 dq,.int .i64 de,.bool df,.string dv,.int .i64 dr].toArray 28 (0,0))] (by kernel_rfl) (by kernel_rfl) (by kernel_rfl) (by intro e he;(simp only [List.mem_cons,List.not_mem_nil,or_false] at he;rcases he with rfl|rfl<;>simp;done)) ?_
    all_goals (apply dtk 0;(case hi=>rfl);(case hop=>(apply prd;apply p_fieldAddrB<;>rfl));(case hq=>kernel_rfl);apply dtk 1;(case hi=>rfl);(case hop=>first|apply r_loadNo;(case hx=>rfl);(case h=>repeat fail);(case hd=>repeat fail);(case hn=>rfl)|apply r_load1;rfl;(apply Cell.own;(case h=>repeat exact mhd _);rfl)|apply r_loadN;rfl;(apply CellsAt.own;(case h=>repeat fail));rfl);(case hq=>kernel_rfl))
    all_goals (apply dtm 2;(case hi|hx=>rfl);(case hq=>kernel_rfl);apply dtk 3;(case hi=>rfl);(case hop=>(apply prd;apply p_fieldAddrB<;>rfl));(case hq=>kernel_rfl))
    all_goals (apply dtk 4;(case hi=>rfl);(case hop=>first|apply r_loadNo;(case hx=>rfl);(case h=>repeat fail);(case hd=>repeat fail);(case hn=>rfl)|apply r_load1;rfl;(apply Cell.own;(case h=>repeat exact mhd _);rfl)|apply r_loadN;rfl;(apply CellsAt.own;(case h=>repeat fail));rfl);(case hq=>kernel_rfl);apply dtk 5;(case hi=>rfl);(case hop=>first|apply r_loadNo;(case hx=>rfl);(case h=>repeat first|exact mhd _|apply mtl);(case hd=>repeat first|with_reducible exact dt_nil|apply dt_here);(case hn=>rfl)|apply r_load1;rfl;(apply Cell.own;(case h=>repeat fail);rfl)|apply r_loadN;rfl;(apply CellsAt.own;(case h=>repeat fail));rfl);(case hq=>kernel_rfl))
    all_goals (apply dtk 8;(case hi=>rfl);(case hop=>first|apply r_loadNo;(case hx=>rfl);(case h=>repeat first|exact mhd _|apply mtl);(case hd=>repeat first|with_reducible exact dt_nil|apply dt_here);(case hn=>rfl)|apply r_load1;rfl;(apply Cell.own;(case h=>repeat fail);rfl)|apply r_loadN;rfl;(apply CellsAt.own;(case h=>repeat fail));rfl);(case hq=>kernel_rfl))
    all_goals ((apply d_call 6 (hs:=qw) (μ1:=[]) (μ2:=[(b10,.cells [.int .i64 dc,.int .i64 dq,.int .i64 de,.bool df,.string dv,.int .i64 dr].toArray 28 (0,0)),(b8,.cells [.int .i64 cl,.int .i64 seq,.int .i64 0,.bool false,.string ByteArray.empty,.int .i64 0].toArray 28 (0,0)),(b7,.cells [.int .i64 ac,.int .i64 aq,.int .i64 ae,.bool af,.string av,.int .i64 ar].toArray 28 (0,0)),(b5,.cells [.int .i64 0,.int .i64 0,.int .i64 0,.bool false,.string ByteArray.empty,.int .i64 0].toArray 28 (0,0)),(b4,.cells [.int .i64 0,.slice none 0 0,.slice none 0 0].toArray 39 (0,0)),(b3,.cells (Cm.cells ⟨kind,cl,seq,key,val,old,node⟩).toArray 25 (0,0)),(b2,.cells [.int .i64 schema,.slice A lp.length c0,.slice A' ls.length c'].toArray 39 (0,0))]);(case hi=>rfl);(case hr=>kernel_rfl);(case ha=>rfl);(case hp=>exact List.Perm.refl _);(case hd=>rfl);(case hν'=>intro e he;simp only [List.mem_cons,List.not_mem_nil,or_false] at he;rcases he with rfl|rfl<;>simp);rintro v4 G4 _ hle4 ⟨-,rfl,hw4⟩;obtain ⟨A4,c4,rfl,-⟩:=id hw4.open))
    all_goals (apply dtk 7;(case hi=>rfl);(case hop=>(apply prd;apply p_build;(case hz=>rfl);(case hv=>(simp only [List.map_cons,List.map_nil];repeat (first|with_reducible exact evs_nil|apply evs_cons;(case h1=>rfl))));(case hb=>(apply bldL;repeat (first|exact bld_nil|apply bld_cons;(case hpf|hc|hs|hl=>rfl);(case ho=>((repeat (first|with_reducible exact ov_nil|apply ov_cons));done)))))));(case hq=>kernel_rfl))
    all_goals (apply d_store 9;(case hi=>rfl);(case hr=>kernel_rfl);(case hL=>infer_instance);(case hp|hx|hc|hsz|h1=>rfl);(case hb=>repeat first|exact mhd _|apply mtl);(case hfit=>exact nle rfl);(case hov=>((repeat (first|with_reducible exact ov_nil|apply ov_cons));done));(case hu=>repeat first|exact Upd.here _ _|apply Upd.there);(case hν'=>intro e he;(simp only [List.mem_cons,List.not_mem_nil,or_false] at he;rcases he with rfl|rfl<;>simp;done)))
    all_goals (apply d_store 10;(case hi=>rfl);(case hr=>kernel_rfl);(case hL=>infer_instance);(case hp|hx|hc|hsz|h1=>rfl);(case hb=>repeat first|exact mhd _|apply mtl);(case hfit=>exact nle rfl);(case hov=>((repeat (first|with_reducible exact ov_nil|apply ov_cons));done));(case hu=>repeat first|exact Upd.here _ _|apply Upd.there);(case hν'=>intro e he;(simp only [List.mem_cons,List.not_mem_nil,or_false] at he;rcases he with rfl|rfl<;>simp;done)))
    all_goals (apply d_done;(case hr=>kernel_rfl))
    repeat' (fail)
    refine v_retM [] (outsM_cc (sz0:=3) (vs0:=[.int .i64 schema,.slice A3 l1.length c3,.slice A4 (withG ksS ls (sesOf ⟨dc,dq,de,df,dv,dr⟩)).length c4]) (e0:=39) (sz1:=6) (vs1:=[.int .i64 dc,.int .i64 dq,.int .i64 de,.bool df,.string dv,.int .i64 dr]) (e1:=28) rfl rfl (by repeat (first|exact mhd _|apply mtl)) rfl rfl (by repeat (first|exact mhd _|apply mtl)) rfl) (List.nil_sublist _) ⟨GH.le_trans hle3 hle4,rfl,_,rfl,A3,c3,A4,c4,rfl,hp3.mono hle4,hw4⟩
   ·rw [if_neg (fun h=>by have:=w1.1 h;omega),if_neg (fun h=>by have:=w2.1 h;omega),if_pos hh]
    refine v_call (μ1:=[]) rfl (qd ho (fun h=>by have:=hh.2.2.2 h;omega)) (List.Perm.refl _) rfl ?_
    rintro _ G3 _ hle3 ⟨-,rfl,v3,rfl,hp3⟩
    obtain ⟨A3,c3,rfl,-⟩:=id hp3.open
    have qw:=qs G3 hle3 ⟨dc,dq,de,df,dv,dr⟩
    repeat' (first|apply v_alloc (d:=10);(case hz|hd=>rfl);intro b10|apply v_seq|apply v_nil|apply v_pure;(case hop=>first|apply p_move<;>rfl|apply p_assign<;>rfl|apply p_extract0<;>rfl|apply p_extract1<;>rfl|fail);(case hd=>rfl)|apply v_store;(case hp|hx|hc|hsz|h1=>rfl);(case hb=>repeat exact mhd _);(case hfit=>exact nle rfl);(case hov=>((repeat (first|with_reducible exact ov_nil|apply ov_cons));done));(case hu=>repeat (exact Upd.here _ _))|fail)
    refine d_start [(b2,.cells [.int .i64 schema,.slice A lp.length c0,.slice A' ls.length c'].toArray 39 (0,0)),(b10,.cells [.int .i64 dc,.int .i64 dq,.int .i64 de,.bool df,.string dv,.int .i64 dr].toArray 28 (0,0))] (by kernel_rfl) (by kernel_rfl) (by kernel_rfl) (by intro e he;(simp only [List.mem_cons,List.not_mem_nil,or_false] at he;rcases he with rfl|rfl<;>simp;done)) ?_
    all_goals (apply dtk 0;(case hi=>rfl);(case hop=>(apply prd;apply p_fieldAddrB<;>rfl));(case hq=>kernel_rfl);apply dtk 1;(case hi=>rfl);(case hop=>first|apply r_loadNo;(case hx=>rfl);(case h=>repeat fail);(case hd=>repeat fail);(case hn=>rfl)|apply r_load1;rfl;(apply Cell.own;(case h=>repeat exact mhd _);rfl)|apply r_loadN;rfl;(apply CellsAt.own;(case h=>repeat fail));rfl);(case hq=>kernel_rfl))
    all_goals (apply dtm 2;(case hi|hx=>rfl);(case hq=>kernel_rfl);apply dtk 3;(case hi=>rfl);(case hop=>(apply prd;apply p_fieldAddrB<;>rfl));(case hq=>kernel_rfl))
    all_goals (apply dtk 4;(case hi=>rfl);(case hop=>first|apply r_loadNo;(case hx=>rfl);(case h=>repeat fail);(case hd=>repeat fail);(case hn=>rfl)|apply r_load1;rfl;(apply Cell.own;(case h=>repeat exact mhd _);rfl)|apply r_loadN;rfl;(apply CellsAt.own;(case h=>repeat fail));rfl);(case hq=>kernel_rfl);apply dtk 5;(case hi=>rfl);(case hop=>first|apply r_loadNo;(case hx=>rfl);(case h=>repeat first|exact mhd _|apply mtl);(case hd=>repeat first|with_reducible exact dt_nil|apply dt_here);(case hn=>rfl)|apply r_load1;rfl;(apply Cell.own;(case h=>repeat fail);rfl)|apply r_loadN;rfl;(apply CellsAt.own;(case h=>repeat fail));rfl);(case hq=>kernel_rfl))
    all_goals (apply dtk 8;(case hi=>rfl);(case hop=>first|apply r_loadNo;(case hx=>rfl);(case h=>repeat first|exact mhd _|apply mtl);(case hd=>repeat first|with_reducible exact dt_nil|apply dt_here);(case hn=>rfl)|apply r_load1;rfl;(apply Cell.own;(case h=>repeat fail);rfl)|apply r_loadN;rfl;(apply CellsAt.own;(case h=>repeat fail));rfl);(case hq=>kernel_rfl))
    all_goals ((apply d_call 6 (hs:=qw) (μ1:=[]) (μ2:=[(b10,.cells [.int .i64 dc,.int .i64 dq,.int .i64 de,.bool df,.string dv,.int .i64 dr].toArray 28 (0,0)),(b8,.cells [.int .i64 cl,.int .i64 seq,.int .i64 0,.bool false,.string ByteArray.empty,.int .i64 0].toArray 28 (0,0)),(b7,.cells [.int .i64 ac,.int .i64 aq,.int .i64 ae,.bool af,.string av,.int .i64 ar].toArray 28 (0,0)),(b5,.cells [.int .i64 0,.int .i64 0,.int .i64 0,.bool false,.string ByteArray.empty,.int .i64 0].toArray 28 (0,0)),(b4,.cells [.int .i64 0,.slice none 0 0,.slice none 0 0].toArray 39 (0,0)),(b3,.cells (Cm.cells ⟨kind,cl,seq,key,val,old,node⟩).toArray 25 (0,0)),(b2,.cells [.int .i64 schema,.slice A lp.length c0,.slice A' ls.length c'].toArray 39 (0,0))]);(case hi=>rfl);(case hr=>kernel_rfl);(case ha=>rfl);(case hp=>exact List.Perm.refl _);(case hd=>rfl);(case hν'=>intro e he;simp only [List.mem_cons,List.not_mem_nil,or_false] at he;rcases he with rfl|rfl<;>simp);rintro v4 G4 _ hle4 ⟨-,rfl,hw4⟩;obtain ⟨A4,c4,rfl,-⟩:=id hw4.open))
    all_goals (apply dtk 7;(case hi=>rfl);(case hop=>(apply prd;apply p_build;(case hz=>rfl);(case hv=>(simp only [List.map_cons,List.map_nil];repeat (first|with_reducible exact evs_nil|apply evs_cons;(case h1=>rfl))));(case hb=>(apply bldL;repeat (first|exact bld_nil|apply bld_cons;(case hpf|hc|hs|hl=>rfl);(case ho=>((repeat (first|with_reducible exact ov_nil|apply ov_cons));done)))))));(case hq=>kernel_rfl))
    all_goals (apply d_store 9;(case hi=>rfl);(case hr=>kernel_rfl);(case hL=>infer_instance);(case hp|hx|hc|hsz|h1=>rfl);(case hb=>repeat first|exact mhd _|apply mtl);(case hfit=>exact nle rfl);(case hov=>((repeat (first|with_reducible exact ov_nil|apply ov_cons));done));(case hu=>repeat first|exact Upd.here _ _|apply Upd.there);(case hν'=>intro e he;(simp only [List.mem_cons,List.not_mem_nil,or_false] at he;rcases he with rfl|rfl<;>simp;done)))
    all_goals (apply d_store 10;(case hi=>rfl);(case hr=>kernel_rfl);(case hL=>infer_instance);(case hp|hx|hc|hsz|h1=>rfl);(case hb=>repeat first|exact mhd _|apply mtl);(case hfit=>exact nle rfl);(case hov=>((repeat (first|with_reducible exact ov_nil|apply ov_cons));done));(case hu=>repeat first|exact Upd.here _ _|apply Upd.there);(case hν'=>intro e he;(simp only [List.mem_cons,List.not_mem_nil,or_false] at he;rcases he with rfl|rfl<;>simp;done)))
    all_goals (apply d_done;(case hr=>kernel_rfl))
    repeat' (fail)
    refine v_retM [] (outsM_cc (sz0:=3) (vs0:=[.int .i64 schema,.slice A3 l1.length c3,.slice A4 (withG ksS ls (sesOf ⟨dc,dq,de,df,dv,dr⟩)).length c4]) (e0:=39) (sz1:=6) (vs1:=[.int .i64 dc,.int .i64 dq,.int .i64 de,.bool df,.string dv,.int .i64 dr]) (e1:=28) rfl rfl (by repeat (first|exact mhd _|apply mtl)) rfl rfl (by repeat (first|exact mhd _|apply mtl)) rfl) (List.nil_sublist _) ⟨GH.le_trans hle3 hle4,rfl,_,rfl,A3,c3,A4,c4,rfl,hp3.mono hle4,hw4⟩
  ·rw [decide_eq_false hh] at qh
   repeat' (first|apply v_box (d:=2) (zs:=[.int .i64 schema,.slice A lp.length c0,.slice A' ls.length c']);(case hx|hz|hd=>rfl);intro b2|apply v_box (d:=3) (zs:=Cm.cells ⟨kind,cl,seq,key,val,old,node⟩);(case hx|hz|hd=>rfl);intro b3|apply v_alloc (d:=4);(case hz|hd=>rfl);intro b4|apply v_alloc (d:=5);(case hz|hd=>rfl);intro b5|apply v_alloc (d:=7);(case hz|hd=>rfl);intro b7|apply v_alloc (d:=8);(case hz|hd=>rfl);intro b8|apply v_seq|apply v_region|apply v_nil|apply v_skip|apply v_take;(case hg=>rfl)|apply v_pass;(case hg|hn|hd=>rfl)|apply v_pure;(case hop=>first|apply p_move<;>rfl|apply p_eq<;>rfl|apply p_lt<;>rfl|apply p_gt<;>rfl|apply p_assign<;>rfl|apply p_pickT<;>rfl|apply p_pickF<;>rfl|apply p_not<;>rfl|apply p_fieldAddrB<;>rfl|apply p_extract0<;>rfl|apply p_extract1<;>rfl|apply p_build;(case hz=>rfl);(case hv=>(simp only [List.map_cons,List.map_nil];repeat (first|with_reducible exact evs_nil|apply evs_cons;(case h1=>rfl))));(case hb=>(apply bldL;repeat (first|exact bld_nil|apply bld_cons;(case hpf|hc|hs|hl=>rfl);(case ho=>((repeat (first|with_reducible exact ov_nil|apply ov_cons));done)))))|fail);(case hd=>rfl)|apply v_condT;(case hc=>rfl)|apply v_condF;(case hc=>rfl)|apply v_cond;(case hc=>rfl);all_goals (intro h;(try simp only [reduceCtorEq,zzz] at h);try (exfalso;omega))|apply v_guardB;(case h1|h2=>rfl);all_goals (intro h;(try simp only [reduceCtorEq,zzz] at h))|apply v_callJ (hs:=qo);(case ha|hd=>rfl)|apply v_callJ (hs:=qh);(case ha|hd=>rfl)|apply v_callJ (hs:=ql);(case ha|hd=>rfl)|apply v_read;(case hop=>(apply r_load1;rfl;(apply Cell.own;(case h=>repeat first|exact mhd _|apply mtl);rfl)));(case hd=>rfl)|apply v_store;(case hp|hx|hc|hsz|h1=>rfl);(case hb=>repeat exact mhd _);(case hfit=>exact nle rfl);(case hov=>((repeat (first|with_reducible exact ov_nil|apply ov_cons));done));(case hu=>repeat (exact Upd.here _ _))|fail)
   ·have hw1:wk=1:=w1.2 ⟨by omega,by omega⟩
    obtain rfl:=w3 hw1
    rw [if_pos hw1]
    refine d_start [(b2,.cells [.int .i64 schema,.slice A lp.length c0,.slice A' ls.length c'].toArray 39 (0,0)),(b7,.cells [.int .i64 ac,.int .i64 aq,.int .i64 ae,.bool af,.string av,.int .i64 ar].toArray 28 (0,0))] (by kernel_rfl) (by kernel_rfl) (by kernel_rfl) (by intro e he;(simp only [List.mem_cons,List.not_mem_nil,or_false] at he;rcases he with rfl|rfl<;>simp;done)) ?_
    all_goals (apply dtk 0;(case hi=>rfl);(case hop=>first|apply r_loadNo;(case hx=>rfl);(case h=>repeat exact mhd _);(case hd=>repeat first|with_reducible exact dt_nil|apply dt_here);(case hn=>rfl)|apply r_load1;rfl;(apply Cell.own;(case h=>repeat fail);rfl)|apply r_loadN;rfl;(apply CellsAt.own;(case h=>repeat fail));rfl);(case hq=>kernel_rfl);apply dtk 1;(case hi=>rfl);(case hop=>first|apply r_loadNo;(case hx=>rfl);(case h=>repeat first|exact mhd _|apply mtl);(case hd=>repeat first|with_reducible exact dt_nil|apply dt_here);(case hn=>rfl)|apply r_load1;rfl;(apply Cell.own;(case h=>repeat fail);rfl)|apply r_loadN;rfl;(apply CellsAt.own;(case h=>repeat fail));rfl);(case hq=>kernel_rfl))
    all_goals (apply d_store 2;(case hi=>rfl);(case hr=>kernel_rfl);(case hL=>infer_instance);(case hp|hx|hc|hsz|h1=>rfl);(case hb=>repeat first|exact mhd _|apply mtl);(case hfit=>exact nle rfl);(case hov=>((repeat (first|with_reducible exact ov_nil|apply ov_cons));done));(case hu=>repeat first|exact Upd.here _ _|apply Upd.there);(case hν'=>intro e he;(simp only [List.mem_cons,List.not_mem_nil,or_false] at he;rcases he with rfl|rfl<;>simp;done)))
    all_goals (apply d_store 3;(case hi=>rfl);(case hr=>kernel_rfl);(case hL=>infer_instance);(case hp|hx|hc|hsz|h1=>rfl);(case hb=>repeat first|exact mhd _|apply mtl);(case hfit=>exact nle rfl);(case hov=>((repeat (first|with_reducible exact ov_nil|apply ov_cons));done));(case hu=>repeat first|exact Upd.here _ _|apply Upd.there);(case hν'=>intro e he;(simp only [List.mem_cons,List.not_mem_nil,or_false] at he;rcases he with rfl|rfl<;>simp;done)))
    all_goals (apply d_done;(case hr=>kernel_rfl))
    repeat' (fail)
    refine v_retM [] (outsM_cc (sz0:=3) (vs0:=[.int .i64 schema,.slice A lp.length c0,.slice A' ls.length c']) (e0:=39) (sz1:=6) (vs1:=[.int .i64 ac,.int .i64 aq,.int .i64 ae,.bool af,.string av,.int .i64 ar]) (e1:=28) rfl rfl (by repeat (first|exact mhd _|apply mtl)) rfl rfl (by repeat (first|exact mhd _|apply mtl)) rfl) (List.nil_sublist _) ⟨GH.le_refl _,rfl,_,rfl,hs⟩
   ·rw [if_neg (fun h=>by have:=w1.1 h;omega),if_pos (w2.2 (by omega))]
    refine d_start [(b2,.cells [.int .i64 schema,.slice A lp.length c0,.slice A' ls.length c'].toArray 39 (0,0)),(b8,.cells [.int .i64 cl,.int .i64 seq,.int .i64 15,.bool false,.string ByteArray.empty,.int .i64 0].toArray 28 (0,0))] (by kernel_rfl) (by kernel_rfl) (by kernel_rfl) (by intro e he;(simp only [List.mem_cons,List.not_mem_nil,or_false] at he;rcases he with rfl|rfl<;>simp;done)) ?_
    all_goals (apply dtk 0;(case hi=>rfl);(case hop=>first|apply r_loadNo;(case hx=>rfl);(case h=>repeat exact mhd _);(case hd=>repeat first|with_reducible exact dt_nil|apply dt_here);(case hn=>rfl)|apply r_load1;rfl;(apply Cell.own;(case h=>repeat fail);rfl)|apply r_loadN;rfl;(apply CellsAt.own;(case h=>repeat fail));rfl);(case hq=>kernel_rfl);apply dtk 1;(case hi=>rfl);(case hop=>first|apply r_loadNo;(case hx=>rfl);(case h=>repeat first|exact mhd _|apply mtl);(case hd=>repeat first|with_reducible exact dt_nil|apply dt_here);(case hn=>rfl)|apply r_load1;rfl;(apply Cell.own;(case h=>repeat fail);rfl)|apply r_loadN;rfl;(apply CellsAt.own;(case h=>repeat fail));rfl);(case hq=>kernel_rfl))
    all_goals (apply d_store 2;(case hi=>rfl);(case hr=>kernel_rfl);(case hL=>infer_instance);(case hp|hx|hc|hsz|h1=>rfl);(case hb=>repeat first|exact mhd _|apply mtl);(case hfit=>exact nle rfl);(case hov=>((repeat (first|with_reducible exact ov_nil|apply ov_cons));done));(case hu=>repeat first|exact Upd.here _ _|apply Upd.there);(case hν'=>intro e he;(simp only [List.mem_cons,List.not_mem_nil,or_false] at he;rcases he with rfl|rfl<;>simp;done)))
    all_goals (apply d_store 3;(case hi=>rfl);(case hr=>kernel_rfl);(case hL=>infer_instance);(case hp|hx|hc|hsz|h1=>rfl);(case hb=>repeat first|exact mhd _|apply mtl);(case hfit=>exact nle rfl);(case hov=>((repeat (first|with_reducible exact ov_nil|apply ov_cons));done));(case hu=>repeat first|exact Upd.here _ _|apply Upd.there);(case hν'=>intro e he;(simp only [List.mem_cons,List.not_mem_nil,or_false] at he;rcases he with rfl|rfl<;>simp;done)))
    all_goals (apply d_done;(case hr=>kernel_rfl))
    repeat' (fail)
    refine v_retM [] (outsM_cc (sz0:=3) (vs0:=[.int .i64 schema,.slice A lp.length c0,.slice A' ls.length c']) (e0:=39) (sz1:=6) (vs1:=[.int .i64 cl,.int .i64 seq,.int .i64 15,.bool false,.string ByteArray.empty,.int .i64 0]) (e1:=28) rfl rfl (by repeat (first|exact mhd _|apply mtl)) rfl rfl (by repeat (first|exact mhd _|apply mtl)) rfl) (List.nil_sublist _) ⟨GH.le_refl _,rfl,_,rfl,hs⟩
   ·rw [if_neg (fun h=>by have:=w1.1 h;omega),if_neg (fun h=>by have:=w2.1 h;omega),if_neg hh]
    refine d_start [(b2,.cells [.int .i64 schema,.slice A lp.length c0,.slice A' ls.length c'].toArray 39 (0,0)),(b8,.cells [.int .i64 cl,.int .i64 seq,.int .i64 14,.bool false,.string ByteArray.empty,.int .i64 0].toArray 28 (0,0))] (by kernel_rfl) (by kernel_rfl) (by kernel_rfl) (by intro e he;(simp only [List.mem_cons,List.not_mem_nil,or_false] at he;rcases he with rfl|rfl<;>simp;done)) ?_
    all_goals (apply dtk 0;(case hi=>rfl);(case hop=>first|apply r_loadNo;(case hx=>rfl);(case h=>repeat exact mhd _);(case hd=>repeat first|with_reducible exact dt_nil|apply dt_here);(case hn=>rfl)|apply r_load1;rfl;(apply Cell.own;(case h=>repeat fail);rfl)|apply r_loadN;rfl;(apply CellsAt.own;(case h=>repeat fail));rfl);(case hq=>kernel_rfl);apply dtk 1;(case hi=>rfl);(case hop=>first|apply r_loadNo;(case hx=>rfl);(case h=>repeat first|exact mhd _|apply mtl);(case hd=>repeat first|with_reducible exact dt_nil|apply dt_here);(case hn=>rfl)|apply r_load1;rfl;(apply Cell.own;(case h=>repeat fail);rfl)|apply r_loadN;rfl;(apply CellsAt.own;(case h=>repeat fail));rfl);(case hq=>kernel_rfl))
    all_goals (apply d_store 2;(case hi=>rfl);(case hr=>kernel_rfl);(case hL=>infer_instance);(case hp|hx|hc|hsz|h1=>rfl);(case hb=>repeat first|exact mhd _|apply mtl);(case hfit=>exact nle rfl);(case hov=>((repeat (first|with_reducible exact ov_nil|apply ov_cons));done));(case hu=>repeat first|exact Upd.here _ _|apply Upd.there);(case hν'=>intro e he;(simp only [List.mem_cons,List.not_mem_nil,or_false] at he;rcases he with rfl|rfl<;>simp;done)))
    all_goals (apply d_store 3;(case hi=>rfl);(case hr=>kernel_rfl);(case hL=>infer_instance);(case hp|hx|hc|hsz|h1=>rfl);(case hb=>repeat first|exact mhd _|apply mtl);(case hfit=>exact nle rfl);(case hov=>((repeat (first|with_reducible exact ov_nil|apply ov_cons));done));(case hu=>repeat first|exact Upd.here _ _|apply Upd.there);(case hν'=>intro e he;(simp only [List.mem_cons,List.not_mem_nil,or_false] at he;rcases he with rfl|rfl<;>simp;done)))
    all_goals (apply d_done;(case hr=>kernel_rfl))
    repeat' (fail)
    refine v_retM [] (outsM_cc (sz0:=3) (vs0:=[.int .i64 schema,.slice A lp.length c0,.slice A' ls.length c']) (e0:=39) (sz1:=6) (vs1:=[.int .i64 cl,.int .i64 seq,.int .i64 14,.bool false,.string ByteArray.empty,.int .i64 0]) (e1:=28) rfl rfl (by repeat (first|exact mhd _|apply mtl)) rfl rfl (by repeat (first|exact mhd _|apply mtl)) rfl) (List.nil_sublist _) ⟨GH.le_refl _,rfl,_,rfl,hs⟩
   ·rw [if_neg (fun h=>by have:=w1.1 h;omega),if_neg (fun h=>by have:=w2.1 h;omega),if_neg hh]
    refine d_start [(b2,.cells [.int .i64 schema,.slice A lp.length c0,.slice A' ls.length c'].toArray 39 (0,0)),(b8,.cells [.int .i64 cl,.int .i64 seq,.int .i64 14,.bool false,.string ByteArray.empty,.int .i64 0].toArray 28 (0,0))] (by kernel_rfl) (by kernel_rfl) (by kernel_rfl) (by intro e he;(simp only [List.mem_cons,List.not_mem_nil,or_false] at he;rcases he with rfl|rfl<;>simp;done)) ?_
    all_goals (apply dtk 0;(case hi=>rfl);(case hop=>first|apply r_loadNo;(case hx=>rfl);(case h=>repeat exact mhd _);(case hd=>repeat first|with_reducible exact dt_nil|apply dt_here);(case hn=>rfl)|apply r_load1;rfl;(apply Cell.own;(case h=>repeat fail);rfl)|apply r_loadN;rfl;(apply CellsAt.own;(case h=>repeat fail));rfl);(case hq=>kernel_rfl);apply dtk 1;(case hi=>rfl);(case hop=>first|apply r_loadNo;(case hx=>rfl);(case h=>repeat first|exact mhd _|apply mtl);(case hd=>repeat first|with_reducible exact dt_nil|apply dt_here);(case hn=>rfl)|apply r_load1;rfl;(apply Cell.own;(case h=>repeat fail);rfl)|apply r_loadN;rfl;(apply CellsAt.own;(case h=>repeat fail));rfl);(case hq=>kernel_rfl))
    all_goals (apply d_store 2;(case hi=>rfl);(case hr=>kernel_rfl);(case hL=>infer_instance);(case hp|hx|hc|hsz|h1=>rfl);(case hb=>repeat first|exact mhd _|apply mtl);(case hfit=>exact nle rfl);(case hov=>((repeat (first|with_reducible exact ov_nil|apply ov_cons));done));(case hu=>repeat first|exact Upd.here _ _|apply Upd.there);(case hν'=>intro e he;(simp only [List.mem_cons,List.not_mem_nil,or_false] at he;rcases he with rfl|rfl<;>simp;done)))
    all_goals (apply d_store 3;(case hi=>rfl);(case hr=>kernel_rfl);(case hL=>infer_instance);(case hp|hx|hc|hsz|h1=>rfl);(case hb=>repeat first|exact mhd _|apply mtl);(case hfit=>exact nle rfl);(case hov=>((repeat (first|with_reducible exact ov_nil|apply ov_cons));done));(case hu=>repeat first|exact Upd.here _ _|apply Upd.there);(case hν'=>intro e he;(simp only [List.mem_cons,List.not_mem_nil,or_false] at he;rcases he with rfl|rfl<;>simp;done)))
    all_goals (apply d_done;(case hr=>kernel_rfl))
    repeat' (fail)
    refine v_retM [] (outsM_cc (sz0:=3) (vs0:=[.int .i64 schema,.slice A lp.length c0,.slice A' ls.length c']) (e0:=39) (sz1:=6) (vs1:=[.int .i64 cl,.int .i64 seq,.int .i64 14,.bool false,.string ByteArray.empty,.int .i64 0]) (e1:=28) rfl rfl (by repeat (first|exact mhd _|apply mtl)) rfl rfl (by repeat (first|exact mhd _|apply mtl)) rfl) (List.nil_sublist _) ⟨GH.le_refl _,rfl,_,rfl,hs⟩
 ·rw [decide_eq_false ho] at qo
  rw [if_neg ho]
  repeat' (first|apply v_box (d:=2) (zs:=[.int .i64 schema,.slice A lp.length c0,.slice A' ls.length c']);(case hx|hz|hd=>rfl);intro b2|apply v_box (d:=3) (zs:=Cm.cells ⟨kind,cl,seq,key,val,old,node⟩);(case hx|hz|hd=>rfl);intro b3|apply v_alloc (d:=4);(case hz|hd=>rfl);intro b4|apply v_alloc (d:=5);(case hz|hd=>rfl);intro b5|apply v_read;(case hop=>(apply r_loadNo;(case hx=>rfl);(case h=>repeat first|exact mhd _|apply mtl);(case hd|hn=>rfl)));(case hd=>rfl)|apply v_seq|apply v_region|apply v_nil|apply v_skip|apply v_take;(case hg=>rfl)|apply v_pass;(case hg|hn|hd=>rfl)|apply v_pure;(case hop=>first|apply p_move<;>rfl|apply p_eq<;>rfl|apply p_pickT<;>rfl|apply p_pickF<;>rfl|apply p_not<;>rfl|apply p_fieldAddrB<;>rfl|apply p_build;(case hz=>rfl);(case hv=>(simp only [List.map_cons,List.map_nil];repeat (with_reducible exact evs_nil)));(case hb=>(apply bldL;repeat (exact bld_nil)))|fail);(case hd=>rfl)|apply v_condT;(case hc=>rfl)|apply v_condF;(case hc=>rfl)|apply v_cond;(case hc=>rfl);all_goals (intro h;(try simp only [reduceCtorEq,zzz] at h))|apply v_guardB;(case h1|h2=>rfl);all_goals (intro h;(try simp only [reduceCtorEq,zzz] at h))|apply v_callJ (hs:=qo);(case ha|hd=>rfl)|apply v_read;(case hop=>(apply r_load1;rfl;(apply Cell.own;(case h=>repeat first|exact mhd _|apply mtl);rfl)));(case hd=>rfl)|apply v_store;(case hp|hx|hc|hsz|h1=>rfl);(case hb=>repeat first|exact mhd _|apply mtl);(case hfit=>exact nle rfl);(case hov=>(first|((repeat (first|with_reducible exact ov_nil|apply ov_cons));done)|rfl));(case hu=>repeat first|exact Upd.here _ _|apply Upd.there)|fail)
  ·rw [if_pos ⟨by assumption,by assumption⟩]
   refine v_call (μ1:=[]) rfl qr (List.Perm.refl _) rfl ?_
   rintro v3 G3 _ hle3 ⟨-,rfl,hs3⟩
   rw [hup] at hs3
   obtain ⟨A3,c3,A3',c3',rfl,-,-⟩:=id hs3
   repeat' (first|apply v_nil|apply v_pure;(case hop=>(apply p_build;(case hz=>rfl);(case hv=>(simp only [List.map_cons,List.map_nil];repeat (with_reducible exact evs_nil)));(case hb=>(apply bldL;repeat (exact bld_nil)))));(case hd=>rfl)|apply v_store;(case hp|hx|hc|hsz|h1=>rfl);(case hb=>repeat first|exact mhd _|apply mtl);(case hfit=>exact nle rfl);(case hov=>((repeat (first|with_reducible exact ov_nil|apply ov_cons));done));(case hu=>repeat first|exact Upd.here _ _|apply Upd.there)|fail)
   refine v_retM [] (outsM_cc (sz0:=3) (vs0:=[.int .i64 2,.slice A3 (upS ⟨schema,lp,ls⟩).pairs.length c3,.slice A3' (upS ⟨schema,lp,ls⟩).sess.length c3']) (e0:=39) (sz1:=6) (vs1:=zA.cells) (e1:=28) rfl rfl (by repeat (first|exact mhd _|apply mtl)) rfl rfl (by repeat (exact mhd _)) rfl) (List.nil_sublist _) ⟨hle3,rfl,_,rfl,hs3⟩
  all_goals
   (rw [if_neg (fun h=>by have:=h.1;have:=h.2;omega)]
    refine v_retM [] (outsM_cc (sz0:=3) (vs0:=[.int .i64 schema,.slice A lp.length c0,.slice A' ls.length c']) (e0:=39) (sz1:=6) (vs1:=zA.cells) (e1:=28) rfl rfl (by repeat (first|exact mhd _|apply mtl)) rfl rfl (by repeat (exact mhd _)) rfl) (List.nil_sublist _) ⟨GH.le_refl _,rfl,_,rfl,hs⟩)
structure Ls where
 seq:Int
 ans:An
def Ls.cells (x:Ls):List Value:=.int .i64 x.seq::x.ans.cells
theorem Ls.len (x:Ls):x.cells.length=7:=rfl
def zLs:Ls:=⟨0,zA⟩
def dAt (D:List Ls) (c:Nat):Ls:=D.getD c zLs
def sesOne (D:List Ls) (c:Nat):List Ss:=if 0<(dAt D c).seq then [⟨c,(dAt D c).seq,(dAt D c).ans⟩] else []
def sesK (D:List Ls):Nat→List Ss
 | 0 => []
 | k+1=>sesK D k++sesOne D k
theorem sesOne_mem {D:List Ls}{x:Ss}{c:Nat}:x∈sesOne D c↔0<(dAt D c).seq∧x=⟨c,(dAt D c).seq,(dAt D c).ans⟩:=by
 unfold sesOne
 by_cases h:0<(dAt D c).seq
 ·rw [if_pos h,List.mem_singleton];exact ⟨fun e=>⟨h,e⟩,fun e=>e.2⟩
 ·rw [if_neg h];exact ⟨fun e=>by simp at e,fun e=>absurd e.1 h⟩
theorem sesK_mem {D:List Ls}{x:Ss}:∀ k,x∈sesK D k↔∃ c,c<k∧0<(dAt D c).seq∧x=⟨c,(dAt D c).seq,(dAt D c).ans⟩
 | 0=>by simp [sesK]
 | k+1=>by
  rw [sesK,List.mem_append,sesK_mem k,sesOne_mem]
  constructor
  ·rintro (⟨c,h1,h2⟩|h)
   ·exact ⟨c,by omega,h2⟩
   ·exact ⟨k,by omega,h⟩
  ·rintro ⟨c,h1,h2⟩
   by_cases hc:c=k
   ·subst hc;exact .inr h2
   ·exact .inl ⟨c,by omega,h2⟩
theorem sesK_lt {D:List Ls}{k:Nat}{x:Ss}(h:x∈sesK D k):0≤ksS x∧ksS x<k:=by
 obtain ⟨c,h1,-,rfl⟩:=(sesK_mem k).1 h
 exact ⟨by show (0:Int)≤(c:Nat);omega,by show ((c:Nat):Int)<_;omega⟩
theorem sesK_rise (D:List Ls):∀ k,RiseW ksS (sesK D k)
 | 0=>List.Pairwise.nil
 | k+1=>by
  rw [sesK]
  refine List.pairwise_append.2 ⟨sesK_rise D k,?_,fun x hx y hy=>?_⟩
  ·unfold sesOne
   split
   ·exact List.pairwise_singleton _ _
   ·exact List.Pairwise.nil
  ·obtain ⟨-,rfl⟩:=sesOne_mem.1 hy
   exact (sesK_lt hx).2
theorem withG_snoc {α:Type}{key:α→Int}{l:List α}{p y:α}(h:key p<key y):withG key (l++[y]) p=withG key l p++[y]:=by
 unfold withG
 rw [List.filter_append,List.filter_append,List.filter_cons_of_neg (by simp;omega),List.filter_cons_of_pos (by simp;omega)]
 simp
theorem withG_all {α:Type}{key:α→Int}{l:List α}{p:α}(h:∀ x∈l,key x<key p):withG key l p=l++[p]:=by
 unfold withG
 rw [List.filter_eq_self.2 (fun x hx=>by simpa using h x hx),List.filter_eq_nil_iff.2 (fun x hx=>by have:=h x hx;simp;omega)]
theorem withG_same {α:Type}{key:α→Int}{l:List α}{p y:α}(h:key y=key p):withG key (l++[y]) p=withG key l p:=by
 unfold withG
 rw [List.filter_append,List.filter_append,List.filter_cons_of_neg (by simp;omega),List.filter_cons_of_neg (by simp;omega)]
 simp
theorem dAt_set {D:List Ls}{c:Nat}(hc:c<D.length) (x:Ls) (j:Nat):dAt (D.set c x) j=if j=c then x else dAt D j:=by
 unfold dAt
 rw [List.getD_eq_getElem?_getD,List.getElem?_set]
 by_cases h:c=j
 ·subst h;simp [hc]
 ·rw [if_neg h,if_neg (fun e=>h e.symm)];rfl
theorem sesK_set {D:List Ls}{c:Nat}(hc:c<D.length) {x:Ls}(hx:0<x.seq):∀ k,sesK (D.set c x) k=if k≤c then sesK D k else withG ksS (sesK D k) ⟨c,x.seq,x.ans⟩
 | 0=>by simp [sesK]
 | k+1=>by
  have ih:=sesK_set hc hx k
  have e:=dAt_set hc x k
  rw [sesK,ih]
  rcases Nat.lt_trichotomy k c with h|h|h
  ·have ek:dAt (D.set c x) k=dAt D k:=by rw [e,if_neg (by omega)]
   rw [if_pos (by omega),if_pos (by omega)]
   have e2:sesOne (D.set c x) k=sesOne D k:=by unfold sesOne;rw [ek]
   rw [e2]
   rfl
  ·subst h
   rw [if_pos (Nat.le_refl _),if_neg (by omega)]
   have e2:sesOne (D.set k x) k=[⟨k,x.seq,x.ans⟩]:=by
    unfold sesOne
    rw [e,if_pos rfl,if_pos hx]
   rw [e2,sesK]
   have hlt:∀ y∈sesK D k,ksS y<ksS (⟨k,x.seq,x.ans⟩:Ss):=fun y hy=>(sesK_lt hy).2
   unfold sesOne
   split
   ·rw [withG_same (show ksS (⟨k,(dAt D k).seq,(dAt D k).ans⟩:Ss)=ksS (⟨k,x.seq,x.ans⟩:Ss) from rfl),withG_all hlt]
   ·rw [List.append_nil,withG_all hlt]
  ·rw [if_neg (by omega),if_neg (by omega),sesK]
   have ek:dAt (D.set c x) k=dAt D k:=by rw [e,if_neg (by omega)]
   have e2:sesOne (D.set c x) k=sesOne D k:=by unfold sesOne;rw [ek]
   rw [e2]
   unfold sesOne
   by_cases hd:0<(dAt D k).seq
   ·rw [if_pos hd,withG_snoc (show ksS (⟨c,x.seq,x.ans⟩:Ss)<ksS (⟨k,(dAt D k).seq,(dAt D k).ans⟩:Ss) from by show ((c:Nat):Int)<(k:Nat);omega)]
   ·rw [if_neg hd,List.append_nil,List.append_nil]
theorem rise_same {α:Type}{key:α→Int}{l:List α}(h:RiseW key l) {x y:α}(hx:x∈l) (hy:y∈l) (e:key x=key y):x=y:=by
 obtain ⟨i,hi,rfl⟩:=List.getElem_of_mem hx
 obtain ⟨j,hj,rfl⟩:=List.getElem_of_mem hy
 have hp:=List.pairwise_iff_getElem.1 h
 rcases Nat.lt_trichotomy i j with hlt|rfl|hlt
 ·have:=hp i j hi hj hlt;omega
 ·rfl
 ·have:=hp j i hj hi hlt;omega
theorem dAt_look {D:List Ls}{k c:Nat}(hc:c<k):(hitG ksS (sesK D k) (c:Nat)=true∧0<(dAt D c).seq∧sesAt (sesK D k) (c:Nat)=⟨c,(dAt D c).seq,(dAt D c).ans⟩)∨(hitG ksS (sesK D k) (c:Nat)=false∧¬ 0<(dAt D c).seq):=by
 have hr:=sesK_rise D k
 by_cases h:0<(dAt D c).seq
 ·left
  have hm:(⟨c,(dAt D c).seq,(dAt D c).ans⟩:Ss)∈sesK D k:=(sesK_mem k).2 ⟨c,hc,h,rfl⟩
  have hh:hitG ksS (sesK D k) (c:Nat)=true:=(hit_iff hr).2 ⟨_,hm,rfl⟩
  obtain ⟨h1,h2⟩:=sesAt_mem hr hh
  exact ⟨hh,h,rise_same hr h1 hm h2⟩
 ·right
  refine ⟨?_,h⟩
  cases hh:hitG ksS (sesK D k) (c:Nat) with
  | false=>rfl
  | true =>
   obtain ⟨x,hx,he⟩:=(hit_iff hr).1 hh
   obtain ⟨c',-,h1,rfl⟩:=(sesK_mem k).1 hx
   have:c'=c:=by
    have:((c':Nat):Int)=(c:Nat):=he
    omega
   subst this
   exact absurd h1 h
theorem nodup_of_map {α β:Type}(f:α→β) {l:List α}(h:(l.map f).Nodup):l.Nodup:=List.Pairwise.of_map f (fun a b hne e=>hne (by rw [e])) h
def prE (p:Pr):ByteArray×Value:=(p.key,.agg #[.string p.val,.int .i64 p.rev])
theorem prE_keys (L:List Pr):(L.map prE).map (·.1)=L.map (·.key):=by simp [prE,Function.comp_def]
theorem findP_hit {l:List Pr}(hr:RiseW ksP l) {n:Int}(h:hitG ksP l n=true):findP l n∈l∧ksP (findP l n)=n:=by
 unfold findP
 rw [dif_pos h]
 refine ⟨List.getElem_mem _,?_⟩
 unfold hitG at h
 split at h
 ·simpa using h
 ·cases h
theorem findP_no {l:List Pr}{n:Int}(h:hitG ksP l n=false):findP l n=zeroPr:=by
 unfold findP
 rw [dif_neg (by simp [h])]
section
variable {L l:List Pr}(hp:L.Perm l) (hr:RiseW ksP l) (hz:Sized l)
include hp hr hz
theorem keys_nodup:(L.map (·.key)).Nodup:=by
 refine (hp.map _).nodup_iff.2 ?_
 refine List.pairwise_map.2 (hr.imp fun {a b} h e=>?_)
 simp only [ksP,e] at h
 omega
theorem mget_prs {k:ByteArray}(hk:k.size≤200):mget (L.map prE) k=if hitG ksP l (kn k)=true then some (prE (findP l (kn k))).2 else none:=by
 have hn:((L.map prE).map (·.1)).Nodup:=by rw [prE_keys];exact keys_nodup hp hr hz
 by_cases h:hitG ksP l (kn k)=true
 ·rw [if_pos h]
  obtain ⟨h1,h2⟩:=findP_hit hr h
  refine (mget_mem hn).2 (List.mem_map.2 ⟨_,hp.mem_iff.2 h1,?_⟩)
  have:(findP l (kn k)).key=k:=(kn_inj (hz _ h1).1 hk).1 h2
  unfold prE
  rw [this]
 ·rw [if_neg h]
  refine mget_no ?_
  rw [prE_keys]
  intro hm
  obtain ⟨x,hx,e⟩:=List.mem_map.1 hm
  exact h ((hit_iff hr).2 ⟨x,hp.mem_iff.1 hx,by show kn x.key=_;rw [e]⟩)
theorem mput_prs {k v:ByteArray}{r:Int}(hk:k.size≤200):∃ L':List Pr,mput (L.map prE) k (.agg #[.string v,.int .i64 r])=L'.map prE∧L'.Perm (withG ksP l ⟨k,v,r⟩):=by
 have hn:=keys_nodup hp hr hz
 have hzL:∀ x∈L,x.key.size≤200:=fun x hx=>(hz x (hp.mem_iff.1 hx)).1
 have hw:(withG ksP l ⟨k,v,r⟩).Nodup:=(withG_rise hr _).imp fun {a b} h e=>by subst e;omega
 have hmw:∀ x,x∈withG ksP l ⟨k,v,r⟩↔x=⟨k,v,r⟩∨(x∈L∧x.key≠k):=by
  intro x
  unfold withG
  simp only [List.mem_append,List.mem_cons,List.mem_filter,decide_eq_true_eq]
  constructor
  ·rintro (⟨h1,h2⟩|h|⟨h1,h2⟩)
   ·exact .inr ⟨hp.mem_iff.2 h1,fun e=>by simp only [ksP,e] at h2;omega⟩
   ·exact .inl h
   ·exact .inr ⟨hp.mem_iff.2 h1,fun e=>by simp only [ksP,e] at h2;omega⟩
  ·rintro (h|⟨h1,h2⟩)
   ·exact .inr (.inl h)
   ·have hne:kn x.key≠kn k:=fun e=>h2 ((kn_inj (hzL x h1) hk).1 e)
    rcases Int.lt_or_gt_of_ne hne with h|h
    ·exact .inl ⟨hp.mem_iff.1 h1,h⟩
    ·exact .inr (.inr ⟨hp.mem_iff.1 h1,h⟩)
 by_cases hin:k∈L.map (·.key)
 ·refine ⟨L.map (fun p=>if p.key=k then ⟨k,v,r⟩ else p),?_,?_⟩
  ·have e:∀ p:Pr,(if (prE p).1=k then (k,(Value.agg #[.string v,.int .i64 r])) else prE p)=prE (if p.key=k then ⟨k,v,r⟩ else p):=fun p=>by
    by_cases h:p.key=k
    ·rw [if_pos (show (prE p).1=k from h),if_pos h];rfl
    ·rw [if_neg (show ¬ (prE p).1=k from h),if_neg h]
   unfold mput
   rw [if_pos (by rw [prE_keys];exact hin),List.map_map,List.map_map]
   exact List.map_congr_left fun p _=>e p
  ·have hk2:(L.map (fun p=>if p.key=k then (⟨k,v,r⟩:Pr) else p)).map (·.key)=L.map (·.key):=by
    rw [List.map_map]
    refine List.map_congr_left fun p _=>?_
    simp only [Function.comp_apply]
    split
    ·rename_i h;exact h.symm
    ·rfl
   have hnd:(L.map (fun p=>if p.key=k then (⟨k,v,r⟩:Pr) else p)).Nodup:=nodup_of_map (·.key) (by rw [hk2];exact hn)
   refine (List.perm_ext_iff_of_nodup hnd hw).2 fun x=>?_
   rw [hmw x]
   constructor
   ·intro hx
    obtain ⟨p,hp1,rfl⟩:=List.mem_map.1 hx
    split
    ·exact .inl rfl
    ·rename_i h;exact .inr ⟨hp1,h⟩
   ·rintro (rfl|⟨h1,h2⟩)
    ·obtain ⟨p,hp1,hp2⟩:=List.mem_map.1 hin
     exact List.mem_map.2 ⟨p,hp1,by rw [if_pos hp2]⟩
    ·exact List.mem_map.2 ⟨x,h1,by rw [if_neg h2]⟩
 ·refine ⟨L++[⟨k,v,r⟩],?_,?_⟩
  ·rw [mput_no (by rw [prE_keys];exact hin),List.map_append]
   rfl
  ·have hnd:(L++[(⟨k,v,r⟩:Pr)]).Nodup:=by
    refine nodup_of_map (·.key) ?_
    rw [List.map_append,List.nodup_append]
    refine ⟨hn,by simp,fun x hx y hy e=>?_⟩
    simp only [List.map_cons,List.map_nil,List.mem_singleton] at hy
    subst hy;subst e
    exact hin hx
   refine (List.perm_ext_iff_of_nodup hnd hw).2 fun x=>?_
   rw [hmw x,List.mem_append,List.mem_singleton]
   constructor
   ·rintro (h|h)
    ·exact .inr ⟨h,fun e=>hin (List.mem_map.2 ⟨x,h,e⟩)⟩
    ·exact .inl h
   ·rintro (h|⟨h,-⟩)
    ·exact .inr h
    ·exact .inl h
theorem mdel_prs {k:ByteArray}(hk:k.size≤200):∃ L':List Pr,mdel (L.map prE) k=L'.map prE∧L'.Perm (l.filter (fun x=>decide (ksP x≠kn k))):=by
 refine ⟨L.filter (fun x=>decide (ksP x≠kn k)),?_,hp.filter _⟩
 unfold mdel
 rw [List.filter_map]
 congr 1
 refine List.filter_congr fun x hx=>?_
 simp only [Function.comp_apply,prE,ne_eq,decide_not,Bool.not_eq_eq_eq_not,Bool.not_not]
 congr 1
 exact propext (kn_inj (hz x (hp.mem_iff.1 hx)).1 hk).symm
end
abbrev mcO (kb:Nat) (act:Bool) (D:List Ls):Obj:=.cells (Value.map (some kb)::Value.bool act::rowC Ls.cells D).toArray 85 (0,0)
def MapP (l:List Pr) (o:Obj):Prop := ∃ L:List Pr,L.Perm l∧MapB keyS (L.map prE) o
def MapW (l:List Pr):Prop:=RiseW ksP l∧Sized l∧l.length≤64∧∀ x∈l,0≤x.rev∧x.rev≤4294967296
instance keyT_strM:KeyT Tryz.prog 9 keyS:=KeyT.string
def vlE (p:Pr):Value:=.agg #[.string p.val,.int .i64 p.rev]
theorem mgetV {l:List Pr}{oM:Obj}(hw:MapW l) {L:List Pr}(hp:L.Perm l) {k:ByteArray}(hk:k.size≤200):(mget (L.map prE) k).getD (.agg #[.string ByteArray.empty,.int .i64 0])=vlE (findP l (kn k))∧(mget (L.map prE) k).isSome=hitG ksP l (kn k):=by
 rw [mget_prs hp hw.1 hw.2.1 hk]
 cases h:hitG ksP l (kn k) with
 | true=>rw [if_pos rfl];exact ⟨rfl,rfl⟩
 | false=>rw [if_neg (by simp),findP_no h];exact ⟨rfl,rfl⟩
theorem r_keyOk {σ:Env}{G:GH}{μ:OH}{ty:TypeId}{x i:Operand}{kb:Nat}{oM:Obj}{l:List Pr}(k:ByteArray) (f:Pr) (hf:findP l (kn k)=f) (b:Bool) (hb':hitG ksP l (kn k)=b) (hw:MapW l) (hM:MapP l oM) (hk:k.size≤200) (hb:(kb,oM)∈μ) (hx:Env.ev σ x=some (.map (some kb))) (hi:Env.ev σ i=some (keyS k)) :
 ReadOp Tryz.prog (.lookup 80 x i true) ty σ G μ (.tuple #[.agg #[.string f.val,.int .i64 f.rev],.bool b]):=by
 obtain ⟨L,hp,hMB⟩:=hM
 have:=r_lookupOk (P:=Tryz.prog) (ty:=ty) (G:=G) (t:=80) (k:=9) (e:=92) (mk:=keyS) k hx hi hb hMB
 obtain ⟨e1,e2⟩:=mgetV (oM:=oM) hw hp hk
 rw [e1,e2,hf,hb'] at this
 exact this
theorem r_key {σ:Env}{G:GH}{μ:OH}{ty:TypeId}{x i:Operand}{kb:Nat}{oM:Obj}{l:List Pr}(k:ByteArray) (f:Pr) (hf:findP l (kn k)=f) (hw:MapW l) (hM:MapP l oM) (hk:k.size≤200) (hb:(kb,oM)∈μ) (hx:Env.ev σ x=some (.map (some kb))) (hi:Env.ev σ i=some (keyS k)) :
 ReadOp Tryz.prog (.lookup 80 x i false) ty σ G μ (.agg #[.string f.val,.int .i64 f.rev]):=by
 obtain ⟨L,hp,hMB⟩:=hM
 have:=r_lookup (P:=Tryz.prog) (ty:=ty) (G:=G) (t:=80) (k:=9) (e:=92) (mk:=keyS) k hx hi hb hMB
 rw [(mgetV (oM:=oM) hw hp hk).1,hf] at this
 exact this
theorem r_lenP {σ:Env}{G:GH}{μ:OH}{ty:TypeId}{x:Operand}{kb:Nat}{oM:Obj}{l:List Pr}(n:Nat) (hn:l.length=n) (hM:MapP l oM) (hb:(kb,oM)∈μ) (hx:Env.ev σ x=some (.map (some kb))) :
 ReadOp Tryz.prog (.call { callee:=.builtin .len,args:=#[x],argTypes:=#[80] }) ty σ G μ (.int .i64 (n:Nat)):=by
 obtain ⟨L,hp,hMB⟩:=hM
 have:=r_lenMap (P:=Tryz.prog) (ty:=ty) (G:=G) (t:=80) (k:=9) (e:=92) (mk:=keyS) hx hb hMB
 rw [List.length_map,hp.length_eq,hn] at this
 exact this
def revQ (act:Bool) (r:Int):Int:=if act=true then nextR r else 0
theorem rev_s (G:GH) (mb kb:Nat) (act:Bool) (D:List Ls) (r:Int) (h:0≤r∧r≤4294967296):Con Tryz.prog 104 #[.pointer (some ⟨mb,0,none⟩),.int .i64 r] G [(mb,mcO kb act D)] (Keeps (.int .i64 (revQ act r)) G [(mb,mcO kb act D)]):=by
 unfold revQ nextR
 cases act with
 | true =>
  (refine v_enter Tryz.func104 rfl Tryz.ntmps104 rfl ?_;intro B _)
  repeat' (first|apply v_seq|apply v_region|apply v_nil|apply v_skip|apply v_pure;(case hop=>first|apply p_move<;>rfl|apply p_assign<;>rfl|apply p_not<;>rfl|apply p_fieldAddrB<;>rfl|apply p_nilCheck<;>rfl|apply p_add;(case hx|hy=>rfl);(case h=>omega)|apply p_min<;>rfl);(case hd=>rfl)|apply v_condF;(case hc=>rfl)|apply v_read;(case hop=>(apply r_load1;rfl;(apply Cell.own;(case h=>repeat exact mhd _);rfl)));(case hd=>rfl)|fail)
  refine v_ret [(mb,_)] (outsA1 rfl rfl) (List.Sublist.refl _) ⟨?_,rfl,rfl⟩
  congr 1
  simp only [if_true]
  omega
 | false =>
  (refine v_enter Tryz.func104 rfl Tryz.ntmps104 rfl ?_;intro B _)
  repeat' (first|apply v_seq|apply v_region|apply v_nil|apply v_pure;(case hop=>first|apply p_move<;>rfl|apply p_assign<;>rfl|apply p_not<;>rfl|apply p_fieldAddrB<;>rfl|apply p_nilCheck<;>rfl|fail);(case hd=>rfl)|apply v_condT;(case hc=>rfl)|apply v_read;(case hop=>(apply r_load1;rfl;(apply Cell.own;(case h=>repeat exact mhd _);rfl)));(case hd=>rfl)|fail)
  exact v_ret [(mb,_)] (outsA1 rfl rfl) (List.Sublist.refl _) ⟨rfl,rfl,rfl⟩
theorem MapP.put {l:List Pr}{L:List Pr}{o:Obj}{k v:ByteArray}{r:Int}(hw:MapW l) (hp:L.Perm l) (hk:k.size≤200) (hM:MapB keyS (mput (L.map prE) k (.agg #[.string v,.int .i64 r])) o):MapP (withG ksP l ⟨k,v,r⟩) o:=by
 obtain ⟨L',h1,h2⟩:=mput_prs (v:=v) (r:=r) hp hw.1 hw.2.1 hk
 exact ⟨L',h2,by rw [← h1];exact hM⟩
theorem findP_revs {l:List Pr}(hw:MapW l) (n:Int):0≤(findP l n).rev∧(findP l n).rev≤4294967296:=by
 cases h:hitG ksP l n with
 | true=>exact hw.2.2.2 _ (findP_hit hw.1 h).1
 | false=>rw [findP_no h];exact ⟨by decide,by decide⟩
def setL (act:Bool) (l:List Pr) (k v:ByteArray):List Pr:=if roomB l (kn k)=true then withG ksP l ⟨k,v,revQ act (findP l (kn k)).rev⟩ else l
set_option maxHeartbeats 1000000 in
theorem mset_s {G:GH}{mb kb:Nat}{act:Bool}{D:List Ls}{oM:Obj}{l:List Pr}(c:Cm) (hw:MapW l) (hM:MapP l oM) (hk:c.key.size≤200) :
 Con Tryz.prog 92 #[.pointer (some ⟨mb,0,none⟩),.agg c.cells.toArray] G [(mb,mcO kb act D),(kb,oM)] (fun r G' μ'=>G'=G∧r=.bool (roomB l (kn c.key))∧∃ oM',MapP (setL act l c.key c.val) oM'∧μ'=[(mb,mcO kb act D),(kb,oM')]):=by
 have hfr:=findP_revs hw (kn c.key)
 have hq:=rev_s G mb kb act D (findP l (kn c.key)).rev hfr
 have hroom:roomB l (kn c.key)=(hitG ksP l (kn c.key) || decide (l.length<64)):=rfl
 have hset:setL act l c.key c.val=if roomB l (kn c.key)=true then withG ksP l ⟨c.key,c.val,revQ act (findP l (kn c.key)).rev⟩ else l:=rfl
 have hput:=fun (L:List Pr) (o:Obj) (hp:L.Perm l) h=>MapP.put (o:=o) (v:=c.val) (r:=revQ act (findP l (kn c.key)).rev) hw hp hk h
 have hlen:=hw.2.2.1
 rw [hset,hroom]
 clear hset hroom
 obtain ⟨kind,client,seq,key,val,old,node⟩:=c
 simp only at *
 generalize hf:findP l (kn key)=f at *
 generalize hb:hitG ksP l (kn key)=b at *
 generalize hn:l.length=n at *
 generalize revQ act f.rev=rq at *
 generalize withG ksP l ⟨key,val,rq⟩=lw at *
 obtain ⟨L,hp,hMB⟩:=id hM
 have hr0:b=false→((n:Nat):Int)=64→(b || decide (n<64))=false:=by intro h1 h2;subst h1;simp;omega
 have hr1:b=true∨¬ ((n:Nat):Int)=64→(b || decide (n<64))=true:=by
  rintro (h1|h1)
  ·subst h1;rfl
  ·cases b<;>simp;omega
 (refine v_enter Tryz.func92 rfl Tryz.ntmps92 rfl ?_;intro B _)
 repeat' (first|apply v_box (d:=3) (zs:=Cm.cells ⟨kind,client,seq,key,val,old,node⟩);(case hx|hz|hd=>rfl);intro b3|apply v_seq|apply v_region|apply v_nil|apply v_pure;(case hop=>(apply p_assign<;>rfl));(case hd=>rfl)|fail)
 refine d_start [(b3,.cells (Cm.cells ⟨kind,client,seq,key,val,old,node⟩).toArray 25 (0,0)),(mb,mcO kb act D),(kb,oM)] (by kernel_rfl) (by kernel_rfl) (by kernel_rfl) (by intro e he;exact he) ?_
 all_goals (apply dtm 0;(case hi|hx=>rfl);(case hq=>kernel_rfl);apply dtn 1;(case hi|hx=>rfl);(case hq=>kernel_rfl))
 all_goals (apply dtk 2;(case hi=>rfl);(case hop=>(apply prd;apply p_fieldAddrB<;>rfl));(case hq=>kernel_rfl);apply dtk 3;(case hi=>rfl);(case hop=>(apply r_load1;rfl;(apply Cell.own;(case h=>repeat first|exact mhd _|apply mtl);rfl)));(case hq=>kernel_rfl))
 all_goals (apply dtk 4;(case hi=>rfl);(case hop=>(apply prd;apply p_fieldAddrB<;>rfl));(case hq=>kernel_rfl);apply dtk 5;(case hi=>rfl);(case hop=>(apply r_load1;rfl;(apply Cell.own;(case h=>repeat exact mhd _);rfl)));(case hq=>kernel_rfl))
 all_goals (apply dtk 6;(case hi=>rfl);(case hop=>((apply r_keyOk key f hf b hb hw hM hk;(case hb=>repeat first|exact mhd _|apply mtl);(case hx|hi=>rfl))));(case hq=>kernel_rfl))
 all_goals (apply dtm 7;(case hi|hx=>rfl);(case hq=>kernel_rfl);apply dtk 8;(case hi=>rfl);(case hop=>(apply prd;apply p_extract0<;>rfl));(case hq=>kernel_rfl))
 all_goals (apply dtk 9;(case hi=>rfl);(case hop=>(apply prd;apply p_extract1<;>rfl));(case hq=>kernel_rfl))
 all_goals (apply d_exec 10;(case hi=>rfl);(case hr=>kernel_rfl);(case hop=>exact m_alloc rfl);(case hd=>rfl);rintro _ _ _ ⟨b5,rfl,rfl,rfl⟩;refine ⟨(by intro e he;(simp at he;simp [he];done)),?_⟩)
 all_goals (apply d_store 11;(case hi=>rfl);(case hr=>kernel_rfl);(case hL=>infer_instance);(case hp|hx|hc|hsz|h1=>rfl);(case hb=>repeat exact mhd _);(case hfit=>exact nle rfl);(case hov=>((repeat (first|with_reducible exact ov_nil|apply ov_cons));done));(case hu=>repeat (exact Upd.here _ _));(case hν'=>intro e he;simp at he;simp [he]))
 all_goals (apply dta 12;(case hi|hx=>rfl);(case hq=>kernel_rfl))
 all_goals (apply d_done;(case hr=>kernel_rfl))
 repeat' (first|apply v_seq|apply v_region|apply v_nil|apply v_skip|apply v_take;(case hg=>rfl)|apply v_pass;(case hg|hn|hd=>rfl)|apply v_pure;(case hop=>first|apply p_move<;>rfl|apply p_eq<;>rfl|apply p_assign<;>rfl|apply p_pickT<;>rfl|apply p_pickF<;>rfl|apply p_not<;>rfl|apply p_fieldAddrB<;>rfl|apply p_nilCheck<;>rfl|fail);(case hd=>rfl)|apply v_condF;(case hc=>rfl)|apply v_cond;(case hc=>rfl);all_goals (intro h;(try simp only [reduceCtorEq,zzz] at h))|apply v_guardB;(case h1|h2=>rfl);all_goals (intro h;(try simp only [reduceCtorEq,zzz] at h))|apply v_read;(case hop=>(apply r_lenP n hn hM;(case hb=>repeat first|exact mhd _|apply mtl);(case hx=>rfl)));(case hd=>rfl)|apply v_read;(case hop=>(apply r_load1;rfl;(apply Cell.own;(case h=>repeat first|exact mhd _|apply mtl);rfl)));(case hd=>rfl)|fail)
 all_goals first
  |(refine v_ret [(mb,mcO kb act D),(kb,oM)] (outsA1 rfl rfl) (by repeat (first|exact List.Sublist.refl _|apply List.Sublist.cons)) ?_
    have e:=hr0 (by assumption) (by assumption)
    exact ⟨rfl,by rw [e],oM,by rw [e,if_neg (by simp)];exact hM,rfl⟩)
  | skip
 all_goals
  refine d_start [(b3,.cells (Cm.cells ⟨kind,client,seq,key,val,old,node⟩).toArray 25 (0,0)),(b5,.cells [.string f.val,.int .i64 f.rev].toArray 92 (0,0)),(mb,mcO kb act D)] (by kernel_rfl) (by kernel_rfl) (by kernel_rfl) (by intro e he;(simp only [List.mem_cons,List.not_mem_nil,or_false] at he;rcases he with rfl|rfl|rfl<;>simp;done)) ?_
  all_goals (apply dtm 0;(case hi|hx=>rfl);(case hq=>kernel_rfl);apply dtn 1;(case hi|hx=>rfl);(case hq=>kernel_rfl))
  all_goals (apply dtk 2;(case hi=>rfl);(case hop=>(apply prd;apply p_fieldAddrB<;>rfl));(case hq=>kernel_rfl);apply dtk 3;(case hi=>rfl);(case hop=>first|apply r_loadNo;(case hx=>rfl);(case h=>repeat fail);(case hd=>repeat fail);(case hn=>rfl)|apply r_load1;rfl;(apply Cell.own;(case h=>repeat first|exact mhd _|apply mtl);rfl)|apply r_loadN;rfl;(apply CellsAt.own;(case h=>repeat fail));rfl);(case hq=>kernel_rfl))
  all_goals (apply dtk 4;(case hi=>rfl);(case hop=>(apply prd;apply p_fieldAddrB<;>rfl));(case hq=>kernel_rfl);apply dtk 5;(case hi=>rfl);(case hop=>first|apply r_loadNo;(case hx=>rfl);(case h=>repeat fail);(case hd=>repeat fail);(case hn=>rfl)|apply r_load1;rfl;(apply Cell.own;(case h=>repeat exact mhd _);rfl)|apply r_loadN;rfl;(apply CellsAt.own;(case h=>repeat fail));rfl);(case hq=>kernel_rfl))
  all_goals (apply dtk 6;(case hi=>rfl);(case hop=>(apply prd;apply p_fieldAddrB<;>rfl));(case hq=>kernel_rfl);apply dtk 7;(case hi=>rfl);(case hop=>first|apply r_loadNo;(case hx=>rfl);(case h=>repeat fail);(case hd=>repeat fail);(case hn=>rfl)|apply r_load1;rfl;(apply Cell.own;(case h=>repeat exact mhd _);rfl)|apply r_loadN;rfl;(apply CellsAt.own;(case h=>repeat fail));rfl);(case hq=>kernel_rfl))
  all_goals (apply dtm 8;(case hi|hx=>rfl);(case hq=>kernel_rfl);apply dtk 9;(case hi=>rfl);(case hop=>(apply prd;apply p_fieldAddrB<;>rfl));(case hq=>kernel_rfl))
  all_goals (apply dtk 10;(case hi=>rfl);(case hop=>first|apply r_loadNo;(case hx=>rfl);(case h=>repeat fail);(case hd=>repeat fail);(case hn=>rfl)|apply r_load1;rfl;(apply Cell.own;(case h=>repeat first|exact mhd _|apply mtl);rfl)|apply r_loadN;rfl;(apply CellsAt.own;(case h=>repeat fail));rfl);(case hq=>kernel_rfl))
  all_goals (apply d_callK 11 (hs:=hq);(case hi=>rfl);(case hr=>kernel_rfl);(case ha=>rfl);(case hp=>first|exact (Pick.perm (by repeat (first|exact Pick.here _|apply Pick.there)))|fail);(case hd=>rfl))
  all_goals (apply dtk 12;(case hi=>rfl);(case hop=>(apply prd;apply p_build;(case hz=>rfl);(case hv=>(simp only [List.map_cons,List.map_nil];repeat (first|with_reducible exact evs_nil|apply evs_cons;(case h1=>rfl))));(case hb=>(apply bldL;repeat (first|exact bld_nil|apply bld_cons;(case hpf|hc|hs|hl=>rfl);(case ho=>((repeat (first|with_reducible exact ov_nil|apply ov_cons));done)))))));(case hq=>kernel_rfl))
  all_goals ((apply d_exec0 13;(case hi=>rfl);(case hr=>kernel_rfl);(case hop=>exact m_mapUpdate (k:=9) (mk:=keyS) key rfl rfl rfl (PickA.perm (ν:=[(kb,oM)]) (by repeat (first|exact PickA.last|apply PickA.cons))) hMB);rintro _ G4 _ ⟨oM2,hM2,hK2,hG4,rfl⟩;subst G4;refine ⟨(by intro e he;simp only [List.mem_cons,List.not_mem_nil,or_false] at he;rcases he with rfl|rfl|rfl<;>simp),?_⟩))
  all_goals (apply d_done;(case hr=>kernel_rfl))
 all_goals repeat' (first|apply v_seq|apply v_region|apply v_nil|apply v_pure;(case hop=>(apply p_assign<;>rfl));(case hd=>rfl)|fail)
 all_goals
  (refine v_perm (ν:=[(mb,mcO kb act D),(kb,oM2),(b5,_),(b3,_)]) (by apply perm_of_count;intro p;simp only [List.append_eq,List.countP_append,List.countP_cons,List.countP_nil,Nat.zero_add,Nat.add_zero];try ac_rfl) ?_
   refine v_ret [(mb,mcO kb act D),(kb,oM2)] (outsA1 rfl rfl) (by repeat (first|exact List.nil_sublist _|apply List.Sublist.cons_cons)) ?_
   have e:=hr1 (by first|exact .inl (by assumption)|exact .inr (by assumption))
   exact ⟨rfl,by rw [e],oM2,by rw [e,if_pos rfl];exact hput L oM2 hp hM2,rfl⟩)
theorem roomB_hit {l:List Pr}{n:Int}(h:hitG ksP l n=true):roomB l n=true:=by unfold roomB;rw [h];rfl
theorem mapW_with {l:List Pr}(hw:MapW l) {p:Pr}(hk:p.key.size≤200) (hv:p.val.size≤200) (hr:0≤p.rev∧p.rev≤4294967296) (hroom:roomB l (kn p.key)=true):MapW (withG ksP l p):=by
 obtain ⟨h1,h2,h3,h4⟩:=hw
 refine ⟨withG_rise h1 p,fun x hx=>?_,?_,fun x hx=>?_⟩
 ·rcases withG_mem hx with rfl|hx
  ·exact ⟨hk,hv⟩
  ·exact h2 x hx
 ·have:=withG_len h1 p
  unfold roomB at hroom
  rw [this]
  split
  ·exact h3
  ·rename_i hh
   simp only [Bool.or_eq_true,decide_eq_true_eq] at hroom
   rcases hroom with h|h
   ·exact absurd h hh
   ·omega
 ·rcases withG_mem hx with rfl|hx
  ·exact hr
  ·exact h4 x hx
theorem withG_in {α:Type}{key:α→Int}{l:List α}{p:α}:p∈withG key l p:=by unfold withG;simp
theorem findP_with {l:List Pr}(hr:RiseW ksP l) (p:Pr):findP (withG ksP l p) (kn p.key)=p:=by
 have hr2:=withG_rise hr p
 have hh:hitG ksP (withG ksP l p) (kn p.key)=true:=(hit_iff hr2).2 ⟨p,withG_in,rfl⟩
 obtain ⟨h1,h2⟩:=findP_hit hr2 hh
 exact rise_same hr2 h1 withG_in h2
theorem revQ_ok (act:Bool) {r:Int}(h:0≤r∧r≤4294967296):0≤revQ act r∧revQ act r≤4294967296:=by
 unfold revQ nextR
 split<;>omega
def swapS (act:Bool) (l:List Pr) (c:Cm):List Pr×An :=
 if hitG ksP l (kn c.key)=false then (l,{ ans0 c with err:=10 })
 else if (findP l (kn c.key)).val=c.old then (setL act l c.key c.val,{ ans0 c with found:=true,val:=(findP l (kn c.key)).val,rev:=revQ act (findP l (kn c.key)).rev })
 else (l,{ ans0 c with err:=15,found:=true,val:=(findP l (kn c.key)).val,rev:=(findP l (kn c.key)).rev })
set_option maxHeartbeats 2000000 in
theorem mswap_s {G:GH}{mb kb:Nat}{act:Bool}{D:List Ls}{oM:Obj}{l:List Pr}(c:Cm) (hw:MapW l) (hM:MapP l oM) (hk:c.key.size≤200) (hv:c.val.size≤200) :
 Con Tryz.prog 91 #[.pointer (some ⟨mb,0,none⟩),.agg c.cells.toArray,.agg (ans0 c).cells.toArray] G [(mb,mcO kb act D),(kb,oM)] (fun r G' μ'=>G'=G∧r=.agg (swapS act l c).2.cells.toArray∧∃ oM',MapP (swapS act l c).1 oM'∧μ'=[(mb,mcO kb act D),(kb,oM')]):=by
 have hset:=fun G=>mset_s (G:=G) (mb:=mb) (kb:=kb) (act:=act) (D:=D) c hw hM hk
 have hroom:hitG ksP l (kn c.key)=true→roomB l (kn c.key)=true:=roomB_hit
 have hsetL:hitG ksP l (kn c.key)=true→MapW (setL act l c.key c.val)∧findP (setL act l c.key c.val) (kn c.key)=⟨c.key,c.val,revQ act (findP l (kn c.key)).rev⟩:=fun h=>by
  unfold setL
  rw [if_pos (roomB_hit h)]
  exact ⟨mapW_with hw hk hv (revQ_ok act (findP_revs hw _)) (roomB_hit h),findP_with hw.1 ⟨c.key,c.val,revQ act (findP l (kn c.key)).rev⟩⟩
 unfold swapS ans0
 obtain ⟨kind,client,seq,key,val,old,node⟩:=c
 simp only at *
 generalize hf:findP l (kn key)=f at *
 generalize hb:hitG ksP l (kn key)=b at *
 generalize revQ act f.rev=rq at *
 generalize setL act l key val=l2 at *
 (refine v_enter Tryz.func91 rfl Tryz.ntmps91 rfl ?_;intro B _)
 repeat' (first|apply v_box (d:=4) (zs:=Cm.cells ⟨kind,client,seq,key,val,old,node⟩);(case hx|hz|hd=>rfl);intro b4|apply v_box (d:=5) (zs:=[.int .i64 client,.int .i64 seq,.int .i64 0,.bool false,.string ByteArray.empty,.int .i64 0]);(case hx|hz|hd=>rfl);intro b5|apply v_alloc (d:=6);(case hz|hd=>rfl);intro b6|apply v_seq|apply v_region|apply v_nil)
 refine d_start [(b4,.cells (Cm.cells ⟨kind,client,seq,key,val,old,node⟩).toArray 25 (0,0)),(mb,mcO kb act D),(kb,oM)] (by kernel_rfl) (by kernel_rfl) (by kernel_rfl) (by intro e he;(simp at he;simp [he];done)) ?_
 all_goals (apply dtm 0;(case hi|hx=>rfl);(case hq=>kernel_rfl);apply dtn 1;(case hi|hx=>rfl);(case hq=>kernel_rfl))
 all_goals (apply dtk 2;(case hi=>rfl);(case hop=>(apply prd;apply p_fieldAddrB<;>rfl));(case hq=>kernel_rfl);apply dtk 3;(case hi=>rfl);(case hop=>(apply r_load1;rfl;(apply Cell.own;(case h=>repeat first|exact mhd _|apply mtl);rfl)));(case hq=>kernel_rfl))
 all_goals (apply dtk 4;(case hi=>rfl);(case hop=>(apply prd;apply p_fieldAddrB<;>rfl));(case hq=>kernel_rfl);apply dtk 5;(case hi=>rfl);(case hop=>(apply r_load1;rfl;(apply Cell.own;(case h=>repeat exact mhd _);rfl)));(case hq=>kernel_rfl))
 all_goals (apply dtk 6;(case hi=>rfl);(case hop=>((apply r_keyOk key f hf b hb hw hM hk;(case hb=>repeat first|exact mhd _|apply mtl);(case hx|hi=>rfl))));(case hq=>kernel_rfl))
 all_goals (apply dtm 7;(case hi|hx=>rfl);(case hq=>kernel_rfl);apply dtk 8;(case hi=>rfl);(case hop=>(apply prd;apply p_extract0<;>rfl));(case hq=>kernel_rfl))
 all_goals (apply dtk 9;(case hi=>rfl);(case hop=>(apply prd;apply p_extract1<;>rfl));(case hq=>kernel_rfl))
 all_goals (apply d_exec 10;(case hi=>rfl);(case hr=>kernel_rfl);(case hop=>exact m_alloc rfl);(case hd=>rfl);rintro _ _ _ ⟨b7,rfl,rfl,rfl⟩;refine ⟨(by intro e he;(simp at he;simp [he];done)),?_⟩)
 all_goals (apply d_store 11;(case hi=>rfl);(case hr=>kernel_rfl);(case hL=>infer_instance);(case hp|hx|hc|hsz|h1=>rfl);(case hb=>repeat exact mhd _);(case hfit=>exact nle rfl);(case hov=>((repeat (first|with_reducible exact ov_nil|apply ov_cons));done));(case hu=>repeat (exact Upd.here _ _));(case hν'=>intro e he;simp at he;simp [he]))
 all_goals (apply dta 12;(case hi|hx=>rfl);(case hq=>kernel_rfl))
 all_goals (apply d_done;(case hr=>kernel_rfl))
 cases b with
 | false =>
  rw [if_pos rfl]
  repeat' (first|apply v_seq|apply v_region|apply v_nil|apply v_block|apply v_pure;(case hop=>first|apply p_move<;>rfl|apply p_assign<;>rfl|apply p_not<;>rfl|apply p_fieldAddrB<;>rfl|fail);(case hd=>rfl)|apply v_condT;(case hc=>rfl)|apply v_read;(case hop=>(apply r_loadNo;(case hx=>rfl);(case h=>repeat first|exact mhd _|apply mtl);(case hd=>repeat first|with_reducible exact dt_nil|apply dt_here);(case hn=>rfl)));(case hd=>rfl)|apply v_store;(case hp|hx|hc|hsz|h1=>rfl);(case hb=>repeat first|exact mhd _|apply mtl);(case hfit=>exact nle rfl);(case hov=>((repeat (first|with_reducible exact ov_nil|apply ov_cons));done));(case hu=>repeat first|exact Upd.here _ _|apply Upd.there)|fail)
  refine v_retM [(mb,mcO kb act D),(kb,oM)] (outsM_cell (sz:=6) (vs:=[.int .i64 client,.int .i64 seq,.int .i64 10,.bool false,.string ByteArray.empty,.int .i64 0]) (e:=28) rfl rfl (by repeat (first|exact mhd _|apply mtl)) rfl) (by repeat (first|exact List.Sublist.refl _|apply List.Sublist.cons)) ⟨rfl,rfl,oM,hM,rfl⟩
 | true =>
  rw [if_neg (by simp)]
  obtain ⟨hw2,hf2⟩:=hsetL rfl
  have hrm:=hroom rfl
  rw [hrm] at hset
  clear hsetL hroom hrm
  repeat' (first|apply v_seq|apply v_region|apply v_nil|apply v_block|apply v_blk|apply v_pure;(case hop=>first|apply p_move<;>rfl|apply p_assign<;>rfl|apply p_not<;>rfl|apply p_fieldAddrB<;>rfl|apply p_neS<;>rfl|fail);(case hd=>rfl)|apply v_condF;(case hc=>rfl)|apply v_cond;(case hc=>rfl);all_goals (intro h;(try simp only [reduceCtorEq,zzz] at h))|apply v_read;(case hop=>first|apply r_loadNo;(case hx=>rfl);(case h=>repeat first|exact mhd _|apply mtl);(case hd=>repeat first|with_reducible exact dt_nil|apply dt_here);(case hn=>rfl)|apply r_load1;rfl;(apply Cell.own;(case h=>repeat first|exact mhd _|apply mtl);rfl)|fail);(case hd=>rfl)|apply v_store;(case hp|hx|hc|hsz|h1=>rfl);(case hb=>repeat first|exact mhd _|apply mtl);(case hfit=>exact nle rfl);(case hov=>((repeat (first|with_reducible exact ov_nil|apply ov_cons));done));(case hu=>repeat first|exact Upd.here _ _|apply Upd.there)|fail)
  ·have hne:¬ f.val=old:=by assumption
   rw [if_neg hne]
   refine d_start [(b7,.cells [.string f.val,.int .i64 f.rev].toArray 92 (0,0)),(b4,.cells (Cm.cells ⟨kind,client,seq,key,val,old,node⟩).toArray 25 (0,0)),(mb,mcO kb act D),(kb,oM)] (by kernel_rfl) (by kernel_rfl) (by kernel_rfl) (by (repeat (first|exact List.forall_mem_nil _|(refine List.forall_mem_cons.2 (And.intro (by repeat (first|exact mhd _|apply mtl)) ?_))))) ?_
   all_goals (apply dtk 0;(case hi=>rfl);(case hop=>(apply prd;apply p_fieldAddrB<;>rfl));(case hq=>kernel_rfl);apply dtk 1;(case hi=>rfl);(case hop=>(apply r_load1;rfl;(apply Cell.own;(case h=>repeat exact mhd _);rfl)));(case hq=>kernel_rfl))
   all_goals (apply dtm 2;(case hi|hx=>rfl);(case hq=>kernel_rfl);apply dtn 3;(case hi|hx=>rfl);(case hq=>kernel_rfl))
   all_goals (apply dtk 4;(case hi=>rfl);(case hop=>(apply prd;apply p_fieldAddrB<;>rfl));(case hq=>kernel_rfl);apply dtk 5;(case hi=>rfl);(case hop=>(apply r_load1;rfl;(apply Cell.own;(case h=>repeat first|exact mhd _|apply mtl);rfl)));(case hq=>kernel_rfl))
   all_goals (apply dtk 6;(case hi=>rfl);(case hop=>(apply prd;apply p_fieldAddrB<;>rfl));(case hq=>kernel_rfl);apply dtk 7;(case hi=>rfl);(case hop=>(apply r_load1;rfl;(apply Cell.own;(case h=>repeat first|exact mhd _|apply mtl);rfl)));(case hq=>kernel_rfl))
   all_goals (apply dtk 8;(case hi=>rfl);(case hop=>((apply r_key key f hf hw hM hk;(case hb=>repeat first|exact mhd _|apply mtl);(case hx|hi=>rfl))));(case hq=>kernel_rfl))
   all_goals (apply dtk 9;(case hi=>rfl);(case hop=>(apply prd;apply p_field1<;>rfl));(case hq=>kernel_rfl);apply dtk 10;(case hi=>rfl);(case hop=>(apply prd;apply p_fieldAddrB<;>rfl));(case hq=>kernel_rfl))
   all_goals (apply d_store 11;(case hi=>rfl);(case hr=>kernel_rfl);(case hL=>infer_instance);(case hp|hx|hc|hsz|h1=>rfl);(case hb=>repeat first|exact mhd _|apply mtl);(case hfit=>exact nle rfl);(case hov=>((repeat (first|with_reducible exact ov_nil|apply ov_cons));done));(case hu=>repeat first|exact Upd.here _ _|apply Upd.there);(case hν'=>(repeat (first|exact List.forall_mem_nil _|(refine List.forall_mem_cons.2 (And.intro (by repeat (first|exact mhd _|apply mtl)) ?_))))))
   all_goals (apply dtk 12;(case hi=>rfl);(case hop=>(apply prd;apply p_fieldAddrB<;>rfl));(case hq=>kernel_rfl))
   all_goals (apply d_store 13;(case hi=>rfl);(case hr=>kernel_rfl);(case hL=>infer_instance);(case hp|hx|hc|hsz|h1=>rfl);(case hb=>repeat first|exact mhd _|apply mtl);(case hfit=>exact nle rfl);(case hov=>((repeat (first|with_reducible exact ov_nil|apply ov_cons));done));(case hu=>repeat first|exact Upd.here _ _|apply Upd.there);(case hν'=>(repeat (first|exact List.forall_mem_nil _|(refine List.forall_mem_cons.2 (And.intro (by repeat (first|exact mhd _|apply mtl)) ?_))))))
   all_goals (apply dtk 14;(case hi=>rfl);(case hop=>(apply prd;apply p_fieldAddrB<;>rfl));(case hq=>kernel_rfl))
   all_goals (apply d_store 15;(case hi=>rfl);(case hr=>kernel_rfl);(case hL=>infer_instance);(case hp|hx|hc|hsz|h1=>rfl);(case hb=>repeat first|exact mhd _|apply mtl);(case hfit=>exact nle rfl);(case hov=>((repeat (first|with_reducible exact ov_nil|apply ov_cons));done));(case hu=>repeat first|exact Upd.here _ _|apply Upd.there);(case hν'=>(repeat (first|exact List.forall_mem_nil _|(refine List.forall_mem_cons.2 (And.intro (by repeat (first|exact mhd _|apply mtl)) ?_))))))
   all_goals (apply d_done;(case hr=>kernel_rfl))
   repeat' (first|apply v_seq|apply v_region|apply v_nil|apply v_read;(case hop=>(apply r_loadNo;(case hx=>rfl);(case h=>repeat first|exact mhd _|apply mtl);(case hd=>repeat first|with_reducible exact dt_nil|apply dt_here);(case hn=>rfl)));(case hd=>rfl)|apply v_store;(case hp|hx|hc|hsz|h1=>rfl);(case hb=>repeat first|exact mhd _|apply mtl);(case hfit=>exact nle rfl);(case hov=>((repeat (first|with_reducible exact ov_nil|apply ov_cons));done));(case hu=>repeat first|exact Upd.here _ _|apply Upd.there)|fail)
   refine v_retM [(mb,mcO kb act D),(kb,oM)] (outsM_cell (sz:=6) (vs:=[.int .i64 client,.int .i64 seq,.int .i64 15,.bool true,.string f.val,.int .i64 f.rev]) (e:=28) rfl rfl (by repeat (first|exact mhd _|apply mtl)) rfl) (by repeat (first|exact List.Sublist.refl _|apply List.Sublist.cons)) ⟨rfl,rfl,oM,hM,rfl⟩
  ·have he:f.val=old:=by assumption
   rw [if_pos he]
   refine v_call (μ1:=[(mb,mcO kb act D),(kb,oM)]) rfl (hset _) (PickA.perm (by repeat (first|exact PickA.last|apply PickA.cons))) rfl ?_
   rintro _ G1 _ - ⟨hG1,rfl,oM2,hM2,rfl⟩
   subst G1
   repeat' (first|apply v_seq|apply v_nil|apply v_blk)
   refine v_perm (ν:=[(b7,.cells [.string f.val,.int .i64 f.rev].toArray 92 (0,0)),(b4,.cells (Cm.cells ⟨kind,client,seq,key,val,old,node⟩).toArray 25 (0,0)),(b6,.cells [.int .i64 0,.int .i64 0,.int .i64 0,.bool false,.string ByteArray.empty,.int .i64 0].toArray 28 (0,0)),(b5,.cells ([.int .i64 client,.int .i64 seq,.int .i64 0,.bool false,.string ByteArray.empty,.int .i64 0]).toArray 28 (0,0)),(mb,mcO kb act D),(kb,oM2)]) (by apply perm_of_count;intro p;simp only [List.append_eq,List.countP_append,List.countP_cons,List.countP_nil,Nat.zero_add,Nat.add_zero];try ac_rfl) ?_
   refine d_start [(b7,.cells [.string f.val,.int .i64 f.rev].toArray 92 (0,0)),(b4,.cells (Cm.cells ⟨kind,client,seq,key,val,old,node⟩).toArray 25 (0,0)),(mb,mcO kb act D),(kb,oM2)] (by kernel_rfl) (by kernel_rfl) (by kernel_rfl) (by (repeat (first|exact List.forall_mem_nil _|(refine List.forall_mem_cons.2 (And.intro (by repeat (first|exact mhd _|apply mtl)) ?_))))) ?_
   all_goals (apply dtk 0;(case hi=>rfl);(case hop=>(apply prd;apply p_fieldAddrB<;>rfl));(case hq=>kernel_rfl);apply dtk 1;(case hi=>rfl);(case hop=>(apply r_load1;rfl;(apply Cell.own;(case h=>repeat exact mhd _);rfl)));(case hq=>kernel_rfl))
   all_goals (apply dtm 2;(case hi|hx=>rfl);(case hq=>kernel_rfl);apply dtn 3;(case hi|hx=>rfl);(case hq=>kernel_rfl))
   all_goals (apply dtk 4;(case hi=>rfl);(case hop=>(apply prd;apply p_fieldAddrB<;>rfl));(case hq=>kernel_rfl);apply dtk 5;(case hi=>rfl);(case hop=>(apply r_load1;rfl;(apply Cell.own;(case h=>repeat first|exact mhd _|apply mtl);rfl)));(case hq=>kernel_rfl))
   all_goals (apply dtk 6;(case hi=>rfl);(case hop=>(apply prd;apply p_fieldAddrB<;>rfl));(case hq=>kernel_rfl);apply dtk 7;(case hi=>rfl);(case hop=>(apply r_load1;rfl;(apply Cell.own;(case h=>repeat first|exact mhd _|apply mtl);rfl)));(case hq=>kernel_rfl))
   all_goals (apply dtk 8;(case hi=>rfl);(case hop=>((apply r_key key ⟨key,val,rq⟩ hf2 hw2 hM2 hk;(case hb=>repeat first|exact mhd _|apply mtl);(case hx|hi=>rfl))));(case hq=>kernel_rfl))
   all_goals (apply dtk 9;(case hi=>rfl);(case hop=>(apply prd;apply p_field1<;>rfl));(case hq=>kernel_rfl);apply dtk 10;(case hi=>rfl);(case hop=>(apply prd;apply p_fieldAddrB<;>rfl));(case hq=>kernel_rfl))
   all_goals (apply d_store 11;(case hi=>rfl);(case hr=>kernel_rfl);(case hL=>infer_instance);(case hp|hx|hc|hsz|h1=>rfl);(case hb=>repeat first|exact mhd _|apply mtl);(case hfit=>exact nle rfl);(case hov=>((repeat (first|with_reducible exact ov_nil|apply ov_cons));done));(case hu=>repeat first|exact Upd.here _ _|apply Upd.there);(case hν'=>(repeat (first|exact List.forall_mem_nil _|(refine List.forall_mem_cons.2 (And.intro (by repeat (first|exact mhd _|apply mtl)) ?_))))))
   all_goals (apply dtk 12;(case hi=>rfl);(case hop=>(apply prd;apply p_fieldAddrB<;>rfl));(case hq=>kernel_rfl))
   all_goals (apply d_store 13;(case hi=>rfl);(case hr=>kernel_rfl);(case hL=>infer_instance);(case hp|hx|hc|hsz|h1=>rfl);(case hb=>repeat first|exact mhd _|apply mtl);(case hfit=>exact nle rfl);(case hov=>((repeat (first|with_reducible exact ov_nil|apply ov_cons));done));(case hu=>repeat first|exact Upd.here _ _|apply Upd.there);(case hν'=>(repeat (first|exact List.forall_mem_nil _|(refine List.forall_mem_cons.2 (And.intro (by repeat (first|exact mhd _|apply mtl)) ?_))))))
   all_goals (apply dtk 14;(case hi=>rfl);(case hop=>(apply prd;apply p_fieldAddrB<;>rfl));(case hq=>kernel_rfl))
   all_goals (apply d_store 15;(case hi=>rfl);(case hr=>kernel_rfl);(case hL=>infer_instance);(case hp|hx|hc|hsz|h1=>rfl);(case hb=>repeat first|exact mhd _|apply mtl);(case hfit=>exact nle rfl);(case hov=>((repeat (first|with_reducible exact ov_nil|apply ov_cons));done));(case hu=>repeat first|exact Upd.here _ _|apply Upd.there);(case hν'=>(repeat (first|exact List.forall_mem_nil _|(refine List.forall_mem_cons.2 (And.intro (by repeat (first|exact mhd _|apply mtl)) ?_))))))
   all_goals (apply d_done;(case hr=>kernel_rfl))
   repeat' (first|apply v_seq|apply v_region|apply v_nil|apply v_read;(case hop=>(apply r_loadNo;(case hx=>rfl);(case h=>repeat first|exact mhd _|apply mtl);(case hd=>repeat first|with_reducible exact dt_nil|apply dt_here);(case hn=>rfl)));(case hd=>rfl)|apply v_store;(case hp|hx|hc|hsz|h1=>rfl);(case hb=>repeat first|exact mhd _|apply mtl);(case hfit=>exact nle rfl);(case hov=>((repeat (first|with_reducible exact ov_nil|apply ov_cons));done));(case hu=>repeat first|exact Upd.here _ _|apply Upd.there)|fail)
   refine v_retM [(mb,mcO kb act D),(kb,oM2)] (outsM_cell (sz:=6) (vs:=[.int .i64 client,.int .i64 seq,.int .i64 0,.bool true,.string f.val,.int .i64 rq]) (e:=28) rfl rfl (by repeat (first|exact mhd _|apply mtl)) rfl) (by repeat (first|exact List.Sublist.refl _|apply List.Sublist.cons)) ⟨rfl,rfl,oM2,hM2,rfl⟩
def freshS (act:Bool) (l:List Pr) (c:Cm):List Pr×An :=
 if c.kind=5 then swapS act l c
 else if c.kind=2∧roomB l (kn c.key)=false then (l,{ ans0 c with err:=11 })
 else (if c.kind=2 then setL act l c.key c.val else if c.kind=4 then l.filter (fun x=>decide (ksP x≠kn c.key)) else l,{ ans0 c with found:=hitG ksP l (kn c.key),val:=(findP l (kn c.key)).val })
theorem MapP.del {l:List Pr}{L:List Pr}{o:Obj}{k:ByteArray}(hw:MapW l) (hp:L.Perm l) (hk:k.size≤200) (hM:MapB keyS (mdel (L.map prE) k) o):MapP (l.filter (fun x=>decide (ksP x≠kn k))) o:=by
 obtain ⟨L',h1,h2⟩:=mdel_prs hp hw.1 hw.2.1 hk
 exact ⟨L',h2,by rw [← h1];exact hM⟩
set_option maxHeartbeats 2000000 in
theorem mfresh_s {G:GH}{mb kb:Nat}{act:Bool}{D:List Ls}{oM:Obj}{l:List Pr}(c:Cm) (hw:MapW l) (hM:MapP l oM) (hk:c.key.size≤200) (hv:c.val.size≤200) :
 Con Tryz.prog 70 #[.pointer (some ⟨mb,0,none⟩),.agg c.cells.toArray] G [(mb,mcO kb act D),(kb,oM)] (fun r G' μ'=>G'=G∧r=.agg (freshS act l c).2.cells.toArray∧∃ oM',MapP (freshS act l c).1 oM'∧μ'=[(mb,mcO kb act D),(kb,oM')]):=by
 have hset:=fun G=>mset_s (G:=G) (mb:=mb) (kb:=kb) (act:=act) (D:=D) c hw hM hk
 have hswap:=fun G=>mswap_s (G:=G) (mb:=mb) (kb:=kb) (act:=act) (D:=D) c hw hM hk hv
 have hdel:=fun (L:List Pr) (o:Obj) (hp:L.Perm l) h=>MapP.del (o:=o) (k:=c.key) hw hp hk h
 have hroom:roomB l (kn c.key)=false→setL act l c.key c.val=l:=fun h=>by unfold setL;rw [h,if_neg (by simp)]
 unfold freshS
 unfold ans0 at *
 obtain ⟨kind,client,seq,key,val,old,node⟩:=c
 simp only at *
 generalize swapS act l ⟨kind,client,seq,key,val,old,node⟩=sw at *
 generalize hf:findP l (kn key)=f at *
 generalize hb:hitG ksP l (kn key)=b at *
 generalize setL act l key val=l2 at *
 generalize l.filter (fun x=>decide (ksP x≠kn key))=l3 at *
 generalize roomB l (kn key)=rm at *
 obtain ⟨L,hp,hMB⟩:=id hM
 obtain ⟨l4,⟨ac,aq,ae,af,av,ar⟩⟩:=sw
 (refine v_enter Tryz.func70 rfl Tryz.ntmps70 rfl ?_;intro B _)
 repeat' (first|apply v_box (d:=3) (zs:=Cm.cells ⟨kind,client,seq,key,val,old,node⟩);(case hx|hz|hd=>rfl);intro b3|apply v_alloc (d:=4);(case hz|hd=>rfl);intro b4|apply v_alloc (d:=5);(case hz|hd=>rfl);intro b5|apply v_read;(case hop=>(apply r_loadNo;(case hx=>rfl);(case h=>repeat first|exact mhd _|apply mtl);(case hd|hn=>rfl)));(case hd=>rfl)|apply v_seq|apply v_region|apply v_nil|apply v_skip|apply v_pure;(case hop=>first|apply p_move<;>rfl|apply p_eq<;>rfl|apply p_fieldAddrB<;>rfl|apply p_build;(case hz=>rfl);(case hv=>(simp only [List.map_cons,List.map_nil];repeat (first|with_reducible exact evs_nil|apply evs_cons;(case h1=>rfl))));(case hb=>(apply bldL;repeat (first|exact bld_nil|apply bld_cons;(case hpf|hc|hs|hl=>rfl);(case ho=>((repeat (first|with_reducible exact ov_nil|apply ov_cons));done)))))|fail);(case hd=>rfl)|apply v_cond;(case hc=>rfl);all_goals (intro h;(try simp only [reduceCtorEq,zzz] at h))|apply v_read;(case hop=>(apply r_load1;rfl;(apply Cell.own;(case h=>repeat first|exact mhd _|apply mtl);rfl)));(case hd=>rfl)|apply v_store;(case hp|hx|hc|hsz|h1=>rfl);(case hb=>repeat exact mhd _);(case hfit=>exact nle rfl);(case hov=>((repeat (first|with_reducible exact ov_nil|apply ov_cons));done));(case hu=>repeat (exact Upd.here _ _))|fail)
 ·rw [if_pos (by assumption)]
  refine v_call (μ1:=[(mb,mcO kb act D),(kb,oM)]) rfl (hswap _) (PickA.perm (by repeat (first|exact PickA.last|apply PickA.cons))) rfl ?_
  rintro _ G1 _ - ⟨hG1,rfl,oM2,hM2,rfl⟩
  subst G1
  repeat' (first|apply v_nil|apply v_store;(case hp|hx|hc|hsz|h1=>rfl);(case hb=>repeat first|exact mhd _|apply mtl);(case hfit=>exact nle rfl);(case hov=>((repeat (first|with_reducible exact ov_nil|apply ov_cons));done));(case hu=>repeat first|exact Upd.here _ _|apply Upd.there)|fail)
  refine v_retM [(mb,mcO kb act D),(kb,oM2)] (outsM_cell (sz:=6) (vs:=[.int .i64 ac,.int .i64 aq,.int .i64 ae,.bool af,.string av,.int .i64 ar]) (e:=28) rfl rfl (by repeat (first|exact mhd _|apply mtl)) rfl) (by repeat (first|exact List.nil_sublist _|apply List.Sublist.cons_cons)) ⟨rfl,rfl,oM2,hM2,rfl⟩
 ·have h5:¬ kind=5:=by assumption
  rw [if_neg h5]
  refine v_perm (ν:=[(b4,.cells [.int .i64 0,.int .i64 0,.int .i64 0,.bool false,.string ByteArray.empty,.int .i64 0].toArray 28 (0,0)),(b5,.cells ([.int .i64 client,.int .i64 seq,.int .i64 0,.bool false,.string ByteArray.empty,.int .i64 0]).toArray 28 (0,0)),(b3,.cells (Cm.cells ⟨kind,client,seq,key,val,old,node⟩).toArray 25 (0,0)),(mb,mcO kb act D),(kb,oM)]) (by apply perm_of_count;intro p;simp only [List.append_eq,List.countP_append,List.countP_cons,List.countP_nil,Nat.zero_add,Nat.add_zero];try ac_rfl) ?_
  refine d_start [(b3,.cells (Cm.cells ⟨kind,client,seq,key,val,old,node⟩).toArray 25 (0,0)),(mb,mcO kb act D),(kb,oM)] (by kernel_rfl) (by kernel_rfl) (by kernel_rfl) (by intro e he;(simp at he;simp [he];done)) ?_
  all_goals (apply dtm 0;(case hi|hx=>rfl);(case hq=>kernel_rfl);apply dtn 1;(case hi|hx=>rfl);(case hq=>kernel_rfl))
  all_goals (apply dtk 2;(case hi=>rfl);(case hop=>(apply prd;apply p_fieldAddrB<;>rfl));(case hq=>kernel_rfl);apply dtk 3;(case hi=>rfl);(case hop=>(apply r_load1;rfl;(apply Cell.own;(case h=>repeat first|exact mhd _|apply mtl);rfl)));(case hq=>kernel_rfl))
  all_goals (apply dtk 4;(case hi=>rfl);(case hop=>(apply prd;apply p_fieldAddrB<;>rfl));(case hq=>kernel_rfl);apply dtk 5;(case hi=>rfl);(case hop=>(apply r_load1;rfl;(apply Cell.own;(case h=>repeat exact mhd _);rfl)));(case hq=>kernel_rfl))
  all_goals (apply dtk 6;(case hi=>rfl);(case hop=>((apply r_keyOk key f hf b hb hw hM hk;(case hb=>repeat first|exact mhd _|apply mtl);(case hx|hi=>rfl))));(case hq=>kernel_rfl))
  all_goals (apply dtm 7;(case hi|hx=>rfl);(case hq=>kernel_rfl);apply dtk 8;(case hi=>rfl);(case hop=>(apply prd;apply p_extract0<;>rfl));(case hq=>kernel_rfl))
  all_goals (apply dtk 9;(case hi=>rfl);(case hop=>(apply prd;apply p_extract1<;>rfl));(case hq=>kernel_rfl))
  all_goals (apply d_exec 10;(case hi=>rfl);(case hr=>kernel_rfl);(case hop=>exact m_alloc rfl);(case hd=>rfl);rintro _ _ _ ⟨b6,rfl,rfl,rfl⟩;refine ⟨(by intro e he;(simp at he;simp [he];done)),?_⟩)
  all_goals (apply d_store 11;(case hi=>rfl);(case hr=>kernel_rfl);(case hL=>infer_instance);(case hp|hx|hc|hsz|h1=>rfl);(case hb=>repeat exact mhd _);(case hfit=>exact nle rfl);(case hov=>((repeat (first|with_reducible exact ov_nil|apply ov_cons));done));(case hu=>repeat (exact Upd.here _ _));(case hν'=>intro e he;simp at he;simp [he]))
  all_goals (apply dta 12;(case hi|hx=>rfl);(case hq=>kernel_rfl))
  all_goals (apply d_done;(case hr=>kernel_rfl))
  by_cases h2:kind=2
  ·repeat' (first|apply v_read;(case hop=>(apply r_loadNo;(case hx=>rfl);(case h=>repeat first|exact mhd _|apply mtl);(case hd|hn=>rfl)));(case hd=>rfl)|apply v_seq|apply v_region|apply v_take;(case hg=>rfl)|apply v_pure;(case hop=>first|apply p_move<;>rfl|apply p_eq<;>rfl|apply p_fieldAddrB<;>rfl|fail);(case hd=>rfl)|apply v_guardB;(case h1|h2=>rfl);all_goals (intro h;(try simp only [reduceCtorEq,zzz] at h);try (exfalso;omega))|apply v_read;(case hop=>(apply r_load1;rfl;(apply Cell.own;(case h=>repeat first|exact mhd _|apply mtl);rfl)));(case hd=>rfl)|fail)
   refine v_call (μ1:=[(mb,mcO kb act D),(kb,oM)]) rfl (hset _) (PickA.perm (by repeat (first|exact PickA.last|apply PickA.cons))) rfl ?_
   rintro _ G1 _ - ⟨hG1,rfl,oM2,hM2,rfl⟩
   subst G1
   cases rm with
   | false =>
    rw [if_pos ⟨h2,rfl⟩]
    rw [hroom rfl] at hM2
    repeat' (first|apply v_seq|apply v_region|apply v_nil|apply v_take;(case hg=>rfl)|apply v_pure;(case hop=>first|apply p_pickT<;>rfl|apply p_not<;>rfl|apply p_fieldAddrB<;>rfl|fail);(case hd=>rfl)|apply v_condT;(case hc=>rfl)|apply v_read;(case hop=>(apply r_loadNo;(case hx=>rfl);(case h=>repeat first|exact mhd _|apply mtl);(case hd=>repeat first|with_reducible exact dt_nil|apply dt_here);(case hn=>rfl)));(case hd=>rfl)|apply v_store;(case hp|hx|hc|hsz|h1=>rfl);(case hb=>repeat first|exact mhd _|apply mtl);(case hfit=>exact nle rfl);(case hov=>((repeat (first|with_reducible exact ov_nil|apply ov_cons));done));(case hu=>repeat first|exact Upd.here _ _|apply Upd.there)|fail)
    refine v_retM [(mb,mcO kb act D),(kb,oM2)] (outsM_cell (sz:=6) (vs:=[.int .i64 client,.int .i64 seq,.int .i64 11,.bool false,.string ByteArray.empty,.int .i64 0]) (e:=28) rfl rfl (by repeat (first|exact mhd _|apply mtl)) rfl) (by repeat (first|exact List.nil_sublist _|apply List.Sublist.cons_cons)) ⟨rfl,rfl,oM2,hM2,rfl⟩
   | true =>
    rw [if_neg (by simp),if_pos h2]
    repeat' (first|apply v_seq|apply v_region|apply v_nil|apply v_skip|apply v_take;(case hg=>rfl)|apply v_pure;(case hop=>first|apply p_eq<;>rfl|apply p_pickT<;>rfl|apply p_not<;>rfl|apply p_fieldAddrB<;>rfl|fail);(case hd=>rfl)|apply v_condF;(case hc=>rfl)|apply v_cond;(case hc=>rfl);all_goals (intro h;(try simp only [reduceCtorEq,zzz] at h);try (exfalso;omega))|apply v_read;(case hop=>(apply r_load1;rfl;(apply Cell.own;(case h=>repeat first|exact mhd _|apply mtl);rfl)));(case hd=>rfl)|fail)
    refine d_start [(b6,.cells [.string f.val,.int .i64 f.rev].toArray 92 (0,0))] (by kernel_rfl) (by kernel_rfl) (by kernel_rfl) (by intro e he;(simp at he;simp [he];done)) ?_
    all_goals (apply dtm 0;(case hi|hx=>rfl);(case hq=>kernel_rfl);apply dtk 1;(case hi=>rfl);(case hop=>(apply prd;apply p_fieldAddrB<;>rfl));(case hq=>kernel_rfl))
    all_goals (apply dtk 2;(case hi=>rfl);(case hop=>first|apply r_loadNo;(case hx=>rfl);(case h=>repeat fail);(case hd=>repeat fail);(case hn=>rfl)|apply r_load1;rfl;(apply Cell.own;(case h=>repeat exact mhd _);rfl)|apply r_loadN;rfl;(apply CellsAt.own;(case h=>repeat fail));rfl);(case hq=>kernel_rfl);apply dtk 3;(case hi=>rfl);(case hop=>(apply prd;apply p_fieldAddrB<;>rfl));(case hq=>kernel_rfl))
    all_goals (apply d_store 4;(case hi=>rfl);(case hr=>kernel_rfl);(case hL=>infer_instance);(case hp|hx|hc|hsz|h1=>rfl);(case hb=>repeat first|exact mhd _|apply mtl);(case hfit=>exact nle rfl);(case hov=>((repeat (first|with_reducible exact ov_nil|apply ov_cons));done));(case hu=>repeat first|exact Upd.here _ _|apply Upd.there);(case hν'=>intro e he;simp at he;simp [he]))
    all_goals (apply dtk 5;(case hi=>rfl);(case hop=>(apply prd;apply p_fieldAddrB<;>rfl));(case hq=>kernel_rfl))
    all_goals (apply d_store 6;(case hi=>rfl);(case hr=>kernel_rfl);(case hL=>infer_instance);(case hp|hx|hc|hsz|h1=>rfl);(case hb=>repeat first|exact mhd _|apply mtl);(case hfit=>exact nle rfl);(case hov=>((repeat (first|with_reducible exact ov_nil|apply ov_cons));done));(case hu=>repeat first|exact Upd.here _ _|apply Upd.there);(case hν'=>intro e he;simp at he;simp [he]))
    all_goals (apply d_done;(case hr=>kernel_rfl))
    repeat' (first|apply v_seq|apply v_region|apply v_nil|apply v_read;(case hop=>(apply r_loadNo;(case hx=>rfl);(case h=>repeat first|exact mhd _|apply mtl);(case hd=>repeat first|with_reducible exact dt_nil|apply dt_here);(case hn=>rfl)));(case hd=>rfl)|apply v_store;(case hp|hx|hc|hsz|h1=>rfl);(case hb=>repeat first|exact mhd _|apply mtl);(case hfit=>exact nle rfl);(case hov=>((repeat (first|with_reducible exact ov_nil|apply ov_cons));done));(case hu=>repeat first|exact Upd.here _ _|apply Upd.there)|fail)
    refine v_retM [(mb,mcO kb act D),(kb,oM2)] (outsM_cell (sz:=6) (vs:=[.int .i64 client,.int .i64 seq,.int .i64 0,.bool b,.string f.val,.int .i64 0]) (e:=28) rfl rfl (by repeat (first|exact mhd _|apply mtl)) rfl) (by repeat (first|exact List.nil_sublist _|apply List.Sublist.cons_cons)) ⟨rfl,rfl,oM2,hM2,rfl⟩
  ·rw [if_neg (fun h=>h2 h.1),if_neg h2]
   repeat' (first|apply v_seq|apply v_region|apply v_nil|apply v_skip|apply v_pass;(case hg|hn|hd=>rfl)|apply v_pure;(case hop=>first|apply p_move<;>rfl|apply p_eq<;>rfl|apply p_pickF<;>rfl|apply p_fieldAddrB<;>rfl|fail);(case hd=>rfl)|apply v_condF;(case hc=>rfl)|apply v_cond;(case hc=>rfl);all_goals (intro h;(try simp only [reduceCtorEq,zzz] at h))|apply v_guardB;(case h1|h2=>rfl);all_goals (intro h;(try simp only [reduceCtorEq,zzz] at h);try (exfalso;omega))|apply v_read;(case hop=>(apply r_load1;rfl;(apply Cell.own;(case h=>repeat first|exact mhd _|apply mtl);rfl)));(case hd=>rfl)|fail)
   ·have h4:kind=4:=by assumption
    rw [if_pos h4]
    refine d_start [(b3,.cells (Cm.cells ⟨kind,client,seq,key,val,old,node⟩).toArray 25 (0,0)),(mb,mcO kb act D)] (by kernel_rfl) (by kernel_rfl) (by kernel_rfl) (by intro e he;(simp only [List.mem_cons,List.not_mem_nil,or_false] at he;rcases he with rfl|rfl<;>simp;done)) ?_
    all_goals (apply dtm 0;(case hi|hx=>rfl);(case hq=>kernel_rfl);apply dtn 1;(case hi|hx=>rfl);(case hq=>kernel_rfl))
    all_goals (apply dtk 2;(case hi=>rfl);(case hop=>(apply prd;apply p_fieldAddrB<;>rfl));(case hq=>kernel_rfl);apply dtk 3;(case hi=>rfl);(case hop=>first|apply r_loadNo;(case hx=>rfl);(case h=>repeat fail);(case hd=>repeat fail);(case hn=>rfl)|apply r_load1;rfl;(apply Cell.own;(case h=>repeat first|exact mhd _|apply mtl);rfl)|apply r_loadN;rfl;(apply CellsAt.own;(case h=>repeat fail));rfl);(case hq=>kernel_rfl))
    all_goals (apply dtk 4;(case hi=>rfl);(case hop=>(apply prd;apply p_fieldAddrB<;>rfl));(case hq=>kernel_rfl);apply dtk 5;(case hi=>rfl);(case hop=>first|apply r_loadNo;(case hx=>rfl);(case h=>repeat fail);(case hd=>repeat fail);(case hn=>rfl)|apply r_load1;rfl;(apply Cell.own;(case h=>repeat exact mhd _);rfl)|apply r_loadN;rfl;(apply CellsAt.own;(case h=>repeat fail));rfl);(case hq=>kernel_rfl))
    all_goals ((apply d_exec0 6;(case hi=>rfl);(case hr=>kernel_rfl);(case hop=>exact m_delete (k:=9) (mk:=keyS) key rfl rfl (PickA.perm (ν:=[(kb,oM)]) (by repeat (first|exact PickA.last|apply PickA.cons))) hMB);rintro _ G4 _ ⟨-,oM2,hM2,hK2,hG4,rfl⟩;subst G4;refine ⟨(by intro e he;simp only [List.mem_cons,List.not_mem_nil,or_false] at he;rcases he with rfl|rfl<;>simp),?_⟩))
    all_goals (apply d_done;(case hr=>kernel_rfl))
    repeat' (first|apply v_seq)
    refine d_start [(b6,.cells [.string f.val,.int .i64 f.rev].toArray 92 (0,0))] (by kernel_rfl) (by kernel_rfl) (by kernel_rfl) (by intro e he;(simp at he;simp [he];done)) ?_
    all_goals (apply dtm 0;(case hi|hx=>rfl);(case hq=>kernel_rfl);apply dtk 1;(case hi=>rfl);(case hop=>(apply prd;apply p_fieldAddrB<;>rfl));(case hq=>kernel_rfl))
    all_goals (apply dtk 2;(case hi=>rfl);(case hop=>first|apply r_loadNo;(case hx=>rfl);(case h=>repeat fail);(case hd=>repeat fail);(case hn=>rfl)|apply r_load1;rfl;(apply Cell.own;(case h=>repeat exact mhd _);rfl)|apply r_loadN;rfl;(apply CellsAt.own;(case h=>repeat fail));rfl);(case hq=>kernel_rfl);apply dtk 3;(case hi=>rfl);(case hop=>(apply prd;apply p_fieldAddrB<;>rfl));(case hq=>kernel_rfl))
    all_goals (apply d_store 4;(case hi=>rfl);(case hr=>kernel_rfl);(case hL=>infer_instance);(case hp|hx|hc|hsz|h1=>rfl);(case hb=>repeat first|exact mhd _|apply mtl);(case hfit=>exact nle rfl);(case hov=>((repeat (first|with_reducible exact ov_nil|apply ov_cons));done));(case hu=>repeat first|exact Upd.here _ _|apply Upd.there);(case hν'=>intro e he;simp at he;simp [he]))
    all_goals (apply dtk 5;(case hi=>rfl);(case hop=>(apply prd;apply p_fieldAddrB<;>rfl));(case hq=>kernel_rfl))
    all_goals (apply d_store 6;(case hi=>rfl);(case hr=>kernel_rfl);(case hL=>infer_instance);(case hp|hx|hc|hsz|h1=>rfl);(case hb=>repeat first|exact mhd _|apply mtl);(case hfit=>exact nle rfl);(case hov=>((repeat (first|with_reducible exact ov_nil|apply ov_cons));done));(case hu=>repeat first|exact Upd.here _ _|apply Upd.there);(case hν'=>intro e he;simp at he;simp [he]))
    all_goals (apply d_done;(case hr=>kernel_rfl))
    repeat' (first|apply v_seq|apply v_region|apply v_nil|apply v_read;(case hop=>(apply r_loadNo;(case hx=>rfl);(case h=>repeat first|exact mhd _|apply mtl);(case hd=>repeat first|with_reducible exact dt_nil|apply dt_here);(case hn=>rfl)));(case hd=>rfl)|apply v_store;(case hp|hx|hc|hsz|h1=>rfl);(case hb=>repeat first|exact mhd _|apply mtl);(case hfit=>exact nle rfl);(case hov=>((repeat (first|with_reducible exact ov_nil|apply ov_cons));done));(case hu=>repeat first|exact Upd.here _ _|apply Upd.there)|fail)
    refine v_perm (ν:=[(mb,mcO kb act D),(kb,oM2),(b4,.cells [.int .i64 client,.int .i64 seq,.int .i64 0,.bool b,.string f.val,.int .i64 0].toArray 28 (0,0)),(b5,_),(b3,_),(b6,_)]) (by apply perm_of_count;intro p;simp only [List.append_eq,List.countP_append,List.countP_cons,List.countP_nil,Nat.zero_add,Nat.add_zero];try ac_rfl) ?_
    refine v_retM [(mb,mcO kb act D),(kb,oM2)] (outsM_cell (sz:=6) (vs:=[.int .i64 client,.int .i64 seq,.int .i64 0,.bool b,.string f.val,.int .i64 0]) (e:=28) rfl rfl (by repeat (first|exact mhd _|apply mtl)) rfl) (by repeat (first|exact List.nil_sublist _|apply List.Sublist.cons_cons)) ⟨rfl,rfl,oM2,hdel L oM2 hp hM2,rfl⟩
   ·rw [if_neg (by assumption)]
    refine d_start [(b6,.cells [.string f.val,.int .i64 f.rev].toArray 92 (0,0))] (by kernel_rfl) (by kernel_rfl) (by kernel_rfl) (by intro e he;(simp at he;simp [he];done)) ?_
    all_goals (apply dtm 0;(case hi|hx=>rfl);(case hq=>kernel_rfl);apply dtk 1;(case hi=>rfl);(case hop=>(apply prd;apply p_fieldAddrB<;>rfl));(case hq=>kernel_rfl))
    all_goals (apply dtk 2;(case hi=>rfl);(case hop=>first|apply r_loadNo;(case hx=>rfl);(case h=>repeat fail);(case hd=>repeat fail);(case hn=>rfl)|apply r_load1;rfl;(apply Cell.own;(case h=>repeat exact mhd _);rfl)|apply r_loadN;rfl;(apply CellsAt.own;(case h=>repeat fail));rfl);(case hq=>kernel_rfl);apply dtk 3;(case hi=>rfl);(case hop=>(apply prd;apply p_fieldAddrB<;>rfl));(case hq=>kernel_rfl))
    all_goals (apply d_store 4;(case hi=>rfl);(case hr=>kernel_rfl);(case hL=>infer_instance);(case hp|hx|hc|hsz|h1=>rfl);(case hb=>repeat first|exact mhd _|apply mtl);(case hfit=>exact nle rfl);(case hov=>((repeat (first|with_reducible exact ov_nil|apply ov_cons));done));(case hu=>repeat first|exact Upd.here _ _|apply Upd.there);(case hν'=>intro e he;simp at he;simp [he]))
    all_goals (apply dtk 5;(case hi=>rfl);(case hop=>(apply prd;apply p_fieldAddrB<;>rfl));(case hq=>kernel_rfl))
    all_goals (apply d_store 6;(case hi=>rfl);(case hr=>kernel_rfl);(case hL=>infer_instance);(case hp|hx|hc|hsz|h1=>rfl);(case hb=>repeat first|exact mhd _|apply mtl);(case hfit=>exact nle rfl);(case hov=>((repeat (first|with_reducible exact ov_nil|apply ov_cons));done));(case hu=>repeat first|exact Upd.here _ _|apply Upd.there);(case hν'=>intro e he;simp at he;simp [he]))
    all_goals (apply d_done;(case hr=>kernel_rfl))
    repeat' (first|apply v_seq|apply v_region|apply v_nil|apply v_read;(case hop=>(apply r_loadNo;(case hx=>rfl);(case h=>repeat first|exact mhd _|apply mtl);(case hd=>repeat first|with_reducible exact dt_nil|apply dt_here);(case hn=>rfl)));(case hd=>rfl)|apply v_store;(case hp|hx|hc|hsz|h1=>rfl);(case hb=>repeat first|exact mhd _|apply mtl);(case hfit=>exact nle rfl);(case hov=>((repeat (first|with_reducible exact ov_nil|apply ov_cons));done));(case hu=>repeat first|exact Upd.here _ _|apply Upd.there)|fail)
    refine v_retM [(mb,mcO kb act D),(kb,oM)] (outsM_cell (sz:=6) (vs:=[.int .i64 client,.int .i64 seq,.int .i64 0,.bool b,.string f.val,.int .i64 0]) (e:=28) rfl rfl (by repeat (first|exact mhd _|apply mtl)) rfl) (by repeat (first|exact List.Sublist.refl _|apply List.Sublist.cons)) ⟨rfl,rfl,oM,hM,rfl⟩
theorem dAt_get {D:List Ls}{n:Nat}(h:n<D.length):dAt D n=D[n]:=by unfold dAt;rw [List.getD_eq_getElem?_getD,List.getElem?_eq_getElem h];rfl
theorem mc_seq {D:List Ls}{n:Nat}(h:n<D.length) (a b:Value):(a::b::rowC Ls.cells D)[2+n*7]? = some (.int .i64 (dAt D n).seq):=by
 have e:2+n*7=n*7+1+1:=by omega
 rw [e,List.getElem?_cons_succ,List.getElem?_cons_succ,show n*7=n*7+0 from rfl,rowC_get Ls.len D n 0 h (by omega),dAt_get h]
 rfl
theorem mc_ans {D:List Ls}{n:Nat}(h:n<D.length) (a b:Value):((a::b::rowC Ls.cells D).drop (2+n*7+1)).take 6=(dAt D n).ans.cells:=by
 have e:2+n*7+1=(n*7+1)+1+1:=by omega
 have h7:=rowC_at Ls.len D n h
 rw [e,List.drop_succ_cons,List.drop_succ_cons,← List.drop_drop,dAt_get h]
 have e2:(List.drop 1 (List.drop (n*7) (rowC Ls.cells D))).take 6=((List.drop (n*7) (rowC Ls.cells D)).take 7).drop 1:=by rw [List.drop_take]
 rw [e2,h7]
 rfl
theorem over_two (a b:Value) (R us:List Value) (i:Nat):over (a::b::R) (2+i) us=a::b::over R i us:=by
 have e:2+i+us.length=(i+us.length)+1+1:=by omega
 have e2:2+i=i+1+1:=by omega
 unfold over
 rw [e,e2,List.take_succ_cons,List.take_succ_cons,List.drop_succ_cons,List.drop_succ_cons]
 rfl
theorem mc_set {D:List Ls}{n:Nat}(h:n<D.length) (a b:Value) (x:Ls):over (a::b::rowC Ls.cells D) (2+n*7) x.cells=a::b::rowC Ls.cells (D.set n x):=by
 have:=rowC_set Ls.len D n h x []
 rw [List.append_nil,List.append_nil] at this
 rw [over_two,this]
theorem mc_len (D:List Ls) (a b:Value):(a::b::rowC Ls.cells D).length=2+D.length*7:=by
 rw [List.length_cons,List.length_cons,rowC_length Ls.len]
 omega
theorem freshS_eq {z:Int}{l:List Pr}(c:Cm) (hz:z=1∨z=2) (hk:2≤c.kind∧c.kind≤5) (h5:c.kind=5→z=2):freshS (decide (z=2)) l c=doS z l c:=by
 rw [doR_eq c hz hk h5]
 have hroom:=roomB_iff (l:=l) (n:=kn c.key)
 have hq:revQ (decide (z=2)) (findP l (kn c.key)).rev=prR z (findP l (kn c.key)):=by
  unfold revQ prR
  by_cases h:z=2
  ·rw [if_pos (by simpa using h),if_pos h]
  ·rw [if_neg (by simpa using h),if_neg h]
 unfold freshS doR swapS setL
 rw [hq]
 by_cases k2:c.kind=2
 ·rw [if_neg (show ¬ c.kind=5 by omega)]
  by_cases hr:roomB l (kn c.key)=true
  ·rw [if_neg (show ¬ (c.kind=2∧roomB l (kn c.key)=false) from fun h=>by rw [hr] at h;cases h.2),if_pos k2,if_pos hr,if_pos k2,if_neg (hroom.1 hr)]
  ·rw [if_pos (show c.kind=2∧roomB l (kn c.key)=false from ⟨k2,by simpa using hr⟩),if_pos k2]
   by_cases hx:hitG ksP l (kn c.key)=false∧64≤l.length
   ·rw [if_pos hx]
   ·exact absurd (hroom.2 hx) hr
 ·by_cases k5:c.kind=5
  ·rw [if_pos k5,if_neg k2,if_neg (show ¬ c.kind=4 by omega),if_pos k5]
   by_cases hh:hitG ksP l (kn c.key)=false
   ·rw [if_pos hh,if_pos hh]
   ·rw [if_neg hh,if_neg hh,if_pos (roomB_hit (by simpa using hh))]
  ·rw [if_neg k5,if_neg (show ¬ (c.kind=2∧roomB l (kn c.key)=false) from fun h=>k2 h.1),if_neg k2,if_neg k2]
   by_cases k4:c.kind=4
   ·rw [if_pos k4,if_pos k4]
   ·rw [if_neg k4,if_neg k4,if_neg k5]
structure MachR (s:St) (D:List Ls):Prop where
 len:D.length=9
 ses:s.sess=sesK D 9
theorem StP.mapW {s:St}(h:StP s):MapW s.pairs:=by
 obtain ⟨-,h1,h2,-⟩:=stP_iff.1 h
 refine ⟨h2.2.1,fun x hx=>?_,h2.1,fun x hx=>?_⟩
 ·obtain ⟨hk,hv⟩:=(h2.2.2 x hx).1
  have:=keyB_size hk
  have:=valB_size hv
  exact ⟨by omega,by omega⟩
 ·have:=(h2.2.2 x hx).2
  unfold RevOk at this
  omega
theorem verS_two {z:Int}(h:z=1∨z=2):verS z=z:=by unfold verS;rcases h with rfl|rfl<;>rfl
theorem clientS_at {s:St}{D:List Ls}{c:Cm}{n:Nat}(hs:StP s) (hm:MachR s D) (hc:cmdI c=0) (ho:2≤c.kind∧c.kind≤5) (hn:c.client=(n:Nat)) :
 (c.seq=(dAt D n).seq→clientS s c=(s,(dAt D n).ans)) ∧
 (c.seq<(dAt D n).seq→clientS s c=(s,{ ans0 c with err:=15 })) ∧
 (¬ c.seq=(dAt D n).seq→¬ c.seq<(dAt D n).seq→(c.kind=5∧decide (s.schema=2)=false→clientS s c=(s,{ ans0 c with err:=14 })) ∧
   (¬ (c.kind=5∧decide (s.schema=2)=false)→clientS s c=(⟨s.schema,(freshS (decide (s.schema=2)) s.pairs c).1,withG ksS s.sess ⟨(n:Nat),c.seq,(freshS (decide (s.schema=2)) s.pairs c).2⟩⟩,(freshS (decide (s.schema=2)) s.pairs c).2))):=by
 obtain ⟨hses,hsch,hps,-⟩:=stP_iff.1 hs
 obtain ⟨hk,hown,hval⟩:=cmd_ok hc
 obtain ⟨hcl,hsq,hkey⟩:=hown ho
 have hlook:=dAt_look (D:=D) (k:=9) (c:=n) (by omega)
 rw [← hm.ses,← hn] at hlook
 have hw:whichS s.sess c.client c.seq=if (dAt D n).seq<c.seq then (0,zA) else if c.seq=(dAt D n).seq then (1,(dAt D n).ans) else (2,zA):=by
  unfold whichS
  rcases hlook with ⟨h1,h2,h3⟩|⟨h1,h2⟩
  ·rw [h1,h3,if_neg (by simp)]
  ·rw [h1,if_pos rfl,if_pos (by omega)]
 have hw0:¬ c.seq=(dAt D n).seq→¬ c.seq<(dAt D n).seq→whichS s.sess c.client c.seq=(0,zA):=fun h1 h2=>by
  rw [hw,if_pos (show (dAt D n).seq<c.seq by omega)]
 have hw1:c.seq=(dAt D n).seq→whichS s.sess c.client c.seq=(1,(dAt D n).ans):=fun h=>by
  rw [hw,if_neg (show ¬ (dAt D n).seq<c.seq by omega),if_pos h]
 have hw2:c.seq<(dAt D n).seq→whichS s.sess c.client c.seq=(2,zA):=fun h=>by
  rw [hw,if_neg (show ¬ (dAt D n).seq<c.seq by omega),if_neg (show ¬ c.seq=(dAt D n).seq by omega)]
 unfold clientS
 rw [verS_two hsch]
 refine ⟨fun h=>?_,fun h=>?_,fun h1 h2=>?_⟩
 ·rw [hw1 h];rfl
 ·rw [hw2 h];rfl
 ·rw [hw0 h1 h2,if_neg (show ¬ ((0,zA):Int×An).1=1 by decide),if_neg (show ¬ ((0,zA):Int×An).1=2 by decide)]
  refine ⟨fun h=>?_,fun h=>?_⟩
  ·have:s.schema≠2:=by simpa using h.2
   rw [if_neg (fun hp=>this (hp.2.2.2 h.1))]
  ·have h5:c.kind=5→s.schema=2:=fun h5=>by
    cases hd:decide (s.schema=2) with
    | true=>simpa using hd
    | false=>exact absurd ⟨h5,hd⟩ h
   rw [if_pos ⟨hsch,by omega,by omega,h5⟩,← freshS_eq c hsch ho h5]
   have ha:=(doS_ok c hsch hps hkey hval).2
   rw [← freshS_eq c hsch ho h5] at ha
   obtain ⟨a1,a2,-⟩:=ha
   unfold sesOf
   rw [a1,a2,hn]
abbrev mcV (kb:Nat) (act:Bool) (D:List Ls):List Value:=Value.map (some kb)::Value.bool act::rowC Ls.cells D
theorem mcAns {G:GH}{μ:OH}{mb kb:Nat}{act:Bool}{D:List Ls}{n:Nat}{e:TypeId}(h:n<D.length) (hb:Has μ mb (mcV kb act D) e):CellsAt G μ ⟨mb,2+n*7+1,none⟩ (dAt D n).ans.cells:=by
 have:=CellsAt.ownAt (G:=G) (i:=2+n*7+1) (m:=6) hb
 rwa [mc_ans h] at this
set_option maxHeartbeats 4000000 in
theorem mclient_s {G:GH}{mb kb:Nat}{s:St}{D:List Ls}{oM:Obj}(c:Cm) (hs:StP s) (hm:MachR s D) (hM:MapP s.pairs oM) (hc:cmdI c=0) (ho:2≤c.kind∧c.kind≤5) (hv:c.val.size≤200) :
 Con Tryz.prog 60 #[.pointer (some ⟨mb,0,none⟩),.agg c.cells.toArray] G [(mb,mcO kb (decide (s.schema=2)) D),(kb,oM)]
  (fun r G' μ'=>G'=G∧∃ b D' oM',r=.tuple [.agg (clientS s c).2.cells.toArray,.bool b].toArray∧MachR (clientS s c).1 D'∧MapP (clientS s c).1.pairs oM'∧(clientS s c).1.schema=s.schema∧μ'=[(mb,mcO kb (decide (s.schema=2)) D'),(kb,oM')]):=by
 obtain ⟨hk8,hown,hval⟩:=cmd_ok hc
 obtain ⟨hcl,hsq,hkey⟩:=hown ho
 obtain ⟨n,hn⟩:∃ n:Nat,c.client=(n:Nat):=⟨c.client.toNat,by omega⟩
 obtain ⟨k1,k2,k3⟩:=clientS_at hs hm hc ho hn
 have hks:=keyB_size hkey
 have hfr:=fun G=>mfresh_s (G:=G) (mb:=mb) (kb:=kb) (act:=decide (s.schema=2)) (D:=D) c hs.mapW hM (by omega) hv
 have hlt:n<D.length:=by rw [hm.len];omega
 have hlen:(mcV kb (decide (s.schema=2)) D).length=65:=by rw [mc_len,hm.len]
 have hg1:=mc_seq hlt (Value.map (some kb)) (Value.bool (decide (s.schema=2)))
 have hA:=fun (G:GH) (μ:OH) (e:TypeId) (h:Has μ mb (mcV kb (decide (s.schema=2)) D) e)=>mcAns (G:=G) hlt h
 have hg3:=fun x=>mc_set hlt (Value.map (some kb)) (Value.bool (decide (s.schema=2))) x
 have hmr:∀ (x:Ls),0<x.seq→∀ l,MachR ⟨s.schema,l,withG ksS s.sess ⟨(n:Nat),x.seq,x.ans⟩⟩ (D.set n x):=fun x hx l=>⟨by rw [List.length_set];exact hm.len,by
  show withG ksS s.sess _=_
  rw [sesK_set hlt hx,if_neg (by omega),hm.ses]⟩
 have hmset:∀ x:Ls,dAt (D.set n x) n=x:=fun x=>by rw [dAt_set hlt,if_pos rfl]
 have hA2:=fun (x:Ls) (G:GH) (μ:OH) (e:TypeId) (h:Has μ mb (mcV kb (decide (s.schema=2)) (D.set n x)) e)=>mcAns (G:=G) (n:=n) (by rw [List.length_set];exact hlt) h
 simp only [hmset] at hA2
 obtain ⟨kind,client,seq,key,val,old,node⟩:=c
 simp only at *
 subst hn
 generalize freshS (decide (s.schema=2)) s.pairs ⟨kind,(n:Nat),seq,key,val,old,node⟩=fs at *
 unfold ans0 at *
 simp only at *
 generalize clientS s ⟨kind,(n:Nat),seq,key,val,old,node⟩=cs at *
 generalize decide (s.schema=2)=act at *
 generalize dAt D n=x at *
 obtain ⟨xq,⟨ac,aq,ae,af,av,ar⟩⟩:=x
 obtain ⟨l2,⟨fc,fq,fe,ff,fv,fr⟩⟩:=fs
 simp only at *
 (refine v_enter Tryz.func60 rfl Tryz.ntmps60 rfl ?_;intro B _)
 repeat' (first|apply v_box (d:=3) (zs:=Cm.cells ⟨kind,(n:Nat),seq,key,val,old,node⟩);(case hx|hz|hd=>rfl);intro b3|apply v_alloc (d:=4);(case hz|hd=>rfl);intro b4|apply v_seq|apply v_region|apply v_nil|apply v_pure;(case hop=>(apply p_assign<;>rfl));(case hd=>rfl)|fail)
 refine d_start _ (by kernel_rfl) (by kernel_rfl) (by kernel_rfl) (fun _ he=>he) ?_
 all_goals (apply dtm 0;(case hi|hx=>rfl);(case hq=>kernel_rfl);apply dtk 1;(case hi=>rfl);(case hop=>(apply prd;apply p_fieldAddrB<;>rfl));(case hq=>kernel_rfl))
 all_goals (apply dtk 2;(case hi=>rfl);(case hop=>first|apply r_loadNo;(case hx=>rfl);(case h=>repeat fail);(case hd=>repeat fail);(case hn=>rfl)|apply r_load1;rfl;(apply Cell.own;(case h=>repeat first|exact mhd _|apply mtl);rfl)|apply r_loadN;rfl;(apply CellsAt.own;(case h=>repeat fail));rfl);(case hq=>kernel_rfl);apply dtn 3;(case hi|hx=>rfl);(case hq=>kernel_rfl))
 all_goals (apply dtk 4;(case hi=>rfl);(case hop=>(apply prd;apply p_fieldAddrB<;>rfl));(case hq=>kernel_rfl))
 all_goals (apply dtk 5;(case hi=>rfl);(case hop=>((apply prd;apply p_indexAddrB (m:=((n:Nat):Int));(case hx|hi=>rfl);(case h0|h=>omega))));(case hq=>kernel_rfl))
 all_goals (apply dta 6;(case hi|hx=>rfl);(case hq=>kernel_rfl))
 all_goals (apply d_done;(case hr=>kernel_rfl))
 repeat' (first|apply v_alloc (d:=7);(case hz|hd=>rfl);intro b7|apply v_seq|apply v_region|apply v_nil|apply v_block|apply v_pure;(case hop=>first|apply p_fieldAddrB<;>rfl|apply p_build;(case hz=>rfl);(case hv=>(simp only [List.map_cons,List.map_nil];repeat (first|with_reducible exact evs_nil|apply evs_cons;(case h1=>rfl))));(case hb=>(apply bldL;repeat (first|exact bld_nil|apply bld_cons;(case hpf|hc|hs|hl=>rfl);(case ho=>((repeat (first|with_reducible exact ov_nil|apply ov_cons));done)))))|fail);(case hd=>rfl)|apply v_read;(case hop=>(apply r_load1;rfl;(apply Cell.own;(case h=>repeat first|exact mhd _|apply mtl);rfl)));(case hd=>rfl)|apply v_store;(case hp|hx|hc|hsz|h1=>rfl);(case hb=>repeat exact mhd _);(case hfit=>exact nle rfl);(case hov=>((repeat (first|with_reducible exact ov_nil|apply ov_cons));done));(case hu=>repeat (exact Upd.here _ _))|fail)
 refine v_has (σ':=[(6,.pointer (some ⟨mb,2+n*7,none⟩)),(7,.pointer (some ⟨b7,0,none⟩)),(4,.pointer (some ⟨b4,0,none⟩)),(3,.pointer (some ⟨b3,0,none⟩)),(5,.bool false),(0,.pointer (some ⟨mb,0,none⟩))]) ⟨rfl,rfl,rfl,rfl,rfl,rfl,trivial⟩ ?_
 refine d_start _ (by kernel_rfl) (by kernel_rfl) (by kernel_rfl) (fun _ he=>he) ?_
 all_goals (apply dtk 0;(case hi=>rfl);(case hop=>(apply prd;apply p_fieldAddrB<;>rfl));(case hq=>kernel_rfl);apply dtk 1;(case hi=>rfl);(case hop=>(apply r_load1;rfl;(apply Cell.own;(case h=>repeat first|exact mhd _|apply mtl);rfl)));(case hq=>kernel_rfl))
 all_goals (apply dtm 2;(case hi|hx=>rfl);(case hq=>kernel_rfl);apply dtn 3;(case hi|hx=>rfl);(case hq=>kernel_rfl))
 all_goals (apply dtk 4;(case hi=>rfl);(case hop=>(apply prd;apply p_fieldAddrB<;>rfl));(case hq=>kernel_rfl))
 all_goals (apply dtk 5;(case hi=>rfl);(case hop=>((apply r_load1;rfl;exact Cell.own (e:=85) (by repeat (first|exact mhd _|apply mtl)) hg1)));(case hq=>kernel_rfl))
 all_goals (apply dtk 6;(case hi=>rfl);(case hop=>(apply prd;apply p_eq<;>rfl));(case hq=>kernel_rfl);apply dta 7;(case hi|hx=>rfl);(case hq=>kernel_rfl))
 all_goals (apply d_done;(case hr=>kernel_rfl))
 repeat' (first|apply v_seq|apply v_region|apply v_nil|apply v_pure;(case hop=>first|apply p_move<;>rfl|apply p_assign<;>rfl|apply p_fieldAddrB<;>rfl|apply p_nilCheck<;>rfl|fail);(case hd=>rfl)|apply v_cond;(case hc=>rfl);all_goals (intro h;(try simp only [reduceCtorEq,zzz] at h))|apply v_read;(case hop=>(apply r_loadN;rfl;exact hA _ _ 85 (by repeat (first|exact mhd _|apply mtl));rfl));(case hd=>rfl)|apply v_store;(case hp|hx|hc|hsz|h1=>rfl);(case hb=>repeat first|exact mhd _|apply mtl);(case hfit=>exact nle rfl);(case hov=>((repeat (first|with_reducible exact ov_nil|apply ov_cons));done));(case hu=>repeat first|exact Upd.here _ _|apply Upd.there)|fail)
 ·rw [k1 (by assumption)]
  refine v_retM [(mb,mcO kb act D),(kb,oM)] (outsM_cell_tmp (sz:=6) (vs:=[.int .i64 ac,.int .i64 aq,.int .i64 ae,.bool af,.string av,.int .i64 ar]) (e:=28) rfl rfl rfl (by repeat (first|exact mhd _|apply mtl)) rfl) (by repeat (first|exact List.Sublist.refl _|apply List.Sublist.cons)) ⟨rfl,false,D,oM,rfl,hm,hM,rfl,rfl⟩
 ·have hne:¬ seq=xq:=by assumption
  refine d_start _ (by kernel_rfl) (by kernel_rfl) (by kernel_rfl) (fun _ he=>he) ?_
  all_goals (apply dtk 0;(case hi=>rfl);(case hop=>(apply prd;apply p_fieldAddrB<;>rfl));(case hq=>kernel_rfl);apply dtk 1;(case hi=>rfl);(case hop=>(apply r_load1;rfl;(apply Cell.own;(case h=>repeat first|exact mhd _|apply mtl);rfl)));(case hq=>kernel_rfl))
  all_goals (apply dtm 2;(case hi|hx=>rfl);(case hq=>kernel_rfl);apply dtn 3;(case hi|hx=>rfl);(case hq=>kernel_rfl))
  all_goals (apply dtk 4;(case hi=>rfl);(case hop=>(apply prd;apply p_fieldAddrB<;>rfl));(case hq=>kernel_rfl))
  all_goals (apply dtk 5;(case hi=>rfl);(case hop=>((apply r_load1;rfl;exact Cell.own (e:=85) (by repeat (first|exact mhd _|apply mtl)) hg1)));(case hq=>kernel_rfl))
  all_goals (apply dtk 6;(case hi=>rfl);(case hop=>(apply prd;apply p_lt<;>rfl));(case hq=>kernel_rfl);apply dta 7;(case hi|hx=>rfl);(case hq=>kernel_rfl))
  all_goals (apply d_done;(case hr=>kernel_rfl))
  repeat' (first|apply v_read;(case hop=>(apply r_loadNo;(case hx=>rfl);(case h=>repeat (exact mhd _));(case hd|hn=>rfl)));(case hd=>rfl)|apply v_seq|apply v_region|apply v_nil|apply v_skip|apply v_blk|apply v_take;(case hg=>rfl)|apply v_pass;(case hg|hn|hd=>rfl)|apply v_pure;(case hop=>first|apply p_move<;>rfl|apply p_eq<;>rfl|apply p_assign<;>rfl|apply p_pickT<;>rfl|apply p_pickF<;>rfl|apply p_not<;>rfl|apply p_fieldAddrB<;>rfl|apply p_nilCheck<;>rfl|fail);(case hd=>rfl)|apply v_condF;(case hc=>rfl)|apply v_cond;(case hc=>rfl);all_goals (intro h;(try simp only [reduceCtorEq,zzz] at h))|apply v_guardB;(case h1|h2=>rfl);all_goals (intro h;(try simp only [reduceCtorEq,zzz] at h))|apply v_read;(case hop=>(apply r_load1;rfl;(apply Cell.own;(case h=>repeat first|exact mhd _|apply mtl);rfl)));(case hd=>rfl)|apply v_store;(case hp|hx|hc|hsz|h1=>rfl);(case hb=>repeat first|exact mhd _|apply mtl);(case hfit=>exact nle rfl);(case hov=>(first|((repeat (first|with_reducible exact ov_nil|apply ov_cons));done)|rfl));(case hu=>repeat first|exact Upd.here _ _|apply Upd.there)|fail)
  ·rw [k2 (by assumption)]
   refine v_retM [(mb,mcO kb act D),(kb,oM)] (outsM_cell_tmp (sz:=6) (vs:=[.int .i64 (n:Nat),.int .i64 seq,.int .i64 15,.bool false,.string ByteArray.empty,.int .i64 0]) (e:=28) rfl rfl rfl (by repeat (first|exact mhd _|apply mtl)) rfl) (by repeat (first|exact List.Sublist.refl _|apply List.Sublist.cons)) ⟨rfl,false,D,oM,rfl,hm,hM,rfl,rfl⟩
  all_goals have hlt2:¬ seq<xq:=by assumption
  all_goals obtain ⟨k4,k5⟩:=k3 hne hlt2
  ·rw [k4 ⟨by assumption,by assumption⟩]
   refine v_retM [(mb,mcO kb act D),(kb,oM)] (outsM_cell_tmp (sz:=6) (vs:=[.int .i64 (n:Nat),.int .i64 seq,.int .i64 14,.bool false,.string ByteArray.empty,.int .i64 0]) (e:=28) rfl rfl rfl (by repeat (first|exact mhd _|apply mtl)) rfl) (by repeat (first|exact List.Sublist.refl _|apply List.Sublist.cons)) ⟨rfl,false,D,oM,rfl,hm,hM,rfl,rfl⟩
  all_goals
   (have hcs:=k5 (fun h=>by first|exact absurd h.1 (by assumption)|(have h2:=h.2;simp_all;done))
    clear k1 k2 k3 k4 k5
    rw [hcs]
    refine v_has (σ':=[(6,.pointer (some ⟨mb,2+n*7,none⟩)),(4,.pointer (some ⟨b4,0,none⟩)),(3,.pointer (some ⟨b3,0,none⟩)),(0,.pointer (some ⟨mb,0,none⟩))]) ⟨rfl,rfl,rfl,rfl,trivial⟩ ?_
    refine d_start [(b7,.cells [.int .i64 (n:Nat),.int .i64 seq,.int .i64 0,.bool false,.string ByteArray.empty,.int .i64 0].toArray 28 (0,0)),(b4,.cells [.int .i64 0,.int .i64 0,.int .i64 0,.bool false,.string ByteArray.empty,.int .i64 0].toArray 28 (0,0)),(b3,.cells (Cm.cells ⟨kind,(n:Nat),seq,key,val,old,node⟩).toArray 25 (0,0))] (by kernel_rfl) (by kernel_rfl) (by kernel_rfl) (by intro e he;(simp only [List.mem_cons,List.not_mem_nil,or_false] at he;rcases he with rfl|rfl|rfl<;>simp;done)) ?_
    all_goals (apply dtm 0;(case hi|hx=>rfl);(case hq=>kernel_rfl);apply dtk 1;(case hi=>rfl);(case hop=>(apply prd;apply p_fieldAddrB<;>rfl));(case hq=>kernel_rfl))
    all_goals (apply dtk 2;(case hi=>rfl);(case hop=>first|apply r_loadNo;(case hx=>rfl);(case h=>repeat fail);(case hd=>repeat fail);(case hn=>rfl)|apply r_load1;rfl;(apply Cell.own;(case h=>repeat first|exact mhd _|apply mtl);rfl)|apply r_loadN;rfl;(apply CellsAt.own;(case h=>repeat fail));rfl);(case hq=>kernel_rfl);apply dtm 3;(case hi|hx=>rfl);(case hq=>kernel_rfl))
    all_goals (apply dtk 4;(case hi=>rfl);(case hop=>first|apply r_loadNo;(case hx=>rfl);(case h=>repeat first|exact mhd _|apply mtl);(case hd=>repeat first|with_reducible exact dt_nil|apply dt_here);(case hn=>rfl)|apply r_load1;rfl;(apply Cell.own;(case h=>repeat fail);rfl)|apply r_loadN;rfl;(apply CellsAt.own;(case h=>repeat fail));rfl);(case hq=>kernel_rfl))
    all_goals ((apply d_call 5 (hs:=hfr _) (μ1:=[(mb,mcO kb act D),(kb,oM)]) (μ2:=[(b7,.cells [.int .i64 (n:Nat),.int .i64 seq,.int .i64 0,.bool false,.string ByteArray.empty,.int .i64 0].toArray 28 (0,0)),(b4,.cells [.int .i64 0,.int .i64 0,.int .i64 0,.bool false,.string ByteArray.empty,.int .i64 0].toArray 28 (0,0)),(b3,.cells (Cm.cells ⟨kind,(n:Nat),seq,key,val,old,node⟩).toArray 25 (0,0))]);(case hi=>rfl);(case hr=>kernel_rfl);(case ha=>rfl);(case hp=>exact (by apply perm_of_count;intro p;simp only [List.append_eq,List.countP_append,List.countP_cons,List.countP_nil,Nat.zero_add,Nat.add_zero];try ac_rfl));(case hd=>rfl);(case hν'=>intro e he;exact he);rintro _ G1 _ - ⟨hG1,rfl,oM2,hM2,rfl⟩;subst G1))
    all_goals (apply dtk 6;(case hi=>rfl);(case hop=>(apply prd;apply p_build;(case hz=>rfl);(case hv=>(simp only [List.map_cons,List.map_nil];repeat (first|with_reducible exact evs_nil|apply evs_cons;(case h1=>rfl))));(case hb=>(apply bldL;repeat (first|exact bld_nil|apply bld_cons;(case hpf|hc|hs|hl=>rfl);(case ho=>((repeat (first|with_reducible exact ov_nil|apply ov_cons));done)))))));(case hq=>kernel_rfl))
    all_goals (apply dtn 7;(case hi|hx=>rfl);(case hq=>kernel_rfl))
    all_goals ((apply d_store 8;(case hi=>rfl);(case hr=>kernel_rfl);(case hL=>infer_instance);(case hp|hx|hc|hsz|h1=>rfl);(case hb=>exact (List.Mem.head _:Has _ mb (mcV kb act D) 85));(case hfit=>show 2+n*7+7≤(mcV kb act D).length;rw [hlen];omega);(case hov=>exact hg3 ⟨seq,⟨fc,fq,fe,ff,fv,fr⟩⟩);(case hu=>exact Upd.here _ _);(case hν'=>exact fun e he=>List.mem_cons_of_mem _ (List.mem_cons_of_mem _ he))))
    all_goals (apply d_done;(case hr=>kernel_rfl))
    repeat' (first|apply v_seq|apply v_region|apply v_nil|apply v_pure;(case hop=>first|apply p_move<;>rfl|apply p_assign<;>rfl|apply p_fieldAddrB<;>rfl|apply p_nilCheck<;>rfl|fail);(case hd=>rfl)|apply v_read;(case hop=>(apply r_loadN;rfl;exact hA2 ⟨seq,⟨fc,fq,fe,ff,fv,fr⟩⟩ _ _ 85 (by repeat (exact mhd _));rfl));(case hd=>rfl)|apply v_store;(case hp|hx|hc|hsz|h1=>rfl);(case hb=>repeat first|exact mhd _|apply mtl);(case hfit=>exact nle rfl);(case hov=>((repeat (first|with_reducible exact ov_nil|apply ov_cons));done));(case hu=>repeat first|exact Upd.here _ _|apply Upd.there)|fail)
    refine v_retM [(mb,mcO kb act (D.set n ⟨seq,⟨fc,fq,fe,ff,fv,fr⟩⟩)),(kb,oM2)] (outsM_cell_tmp (sz:=6) (vs:=[.int .i64 fc,.int .i64 fq,.int .i64 fe,.bool ff,.string fv,.int .i64 fr]) (e:=28) rfl rfl rfl (by repeat (first|exact mhd _|apply mtl)) rfl) (by repeat (first|exact List.nil_sublist _|apply List.Sublist.cons_cons)) ⟨rfl,true,_,oM2,rfl,hmr ⟨seq,⟨fc,fq,fe,ff,fv,fr⟩⟩ (by show 0<seq;omega) l2,hM2,rfl,rfl⟩)
section
attribute [local semireducible] Vc DVc Con PureOp ReadOp MoveOp
theorem d_fork3 {P:Program}{fn:Func}{n:Nat}{B:Base}{Φ:Value→GH→OH→Prop}{k:List It}{σ:Env}{G G0:GH}{μ:OH}{all:Array Oper}{m:Nat}{listed:Array Bool}{ν:OH}(i j l:Nat) (hr:Region.ready .any all listed=[i,j,l]) (h1:DX P fn n B Φ all G0 ν m listed k σ G μ i) (h2:DX P fn n B Φ all G0 ν m listed k σ G μ j) (h3:DX P fn n B Φ all G0 ν m listed k σ G μ l):DVc P fn n B Φ all G0 ν (m+1) listed k σ G μ:=by
 intro hsel hle hν w hw a ha
 refine wpAnyH_all hr (by simp) fun x hx=>?_
 simp only [List.mem_cons,List.mem_singleton,List.not_mem_nil,or_false] at hx
 obtain rfl|rfl|rfl:=hx
 ·exact h1 hsel hle hν w hw a ha
 ·exact h2 hsel hle hν w hw a ha
 ·exact h3 hsel hle hν w hw a ha
end
end Go.Proofs.YtlkakbjcolgjbaaGreatDoor
/-
  The reference 28: Run.
-/
namespace Go.Proofs.YtlkakbjcolgjbaaGreatDoor
open Go.Vx Go.ChangeShapes Go.WideShapes Go.ChangeAt Go.RowKit
theorem applyS_err (s:St) (c:Cm):(applyS s c).2.2=cmdI c:=by
 unfold applyS
 by_cases h:cmdI c=0
 ·rw [if_neg (by simp [h]),h]
  (repeat' split)<;>rfl
 ·rw [if_pos h]
open Classical in
noncomputable def actL (L:List Pr) (left:List ByteArray):List Pr:=L.map fun p=>if p.key∈left then p else revOf 1 p
theorem actL_keys (L:List Pr) (left:List ByteArray):(actL L left).map (·.key)=L.map (·.key):=by
 unfold actL
 rw [List.map_map]
 refine List.map_congr_left fun p _=>?_
 simp only [Function.comp_apply]
 split<;>rfl
theorem actL_all (L:List Pr):actL L (L.map (·.key))=L:=by
 unfold actL
 conv=>rhs;rw [← List.map_id L]
 refine List.map_congr_left fun p hp=>?_
 rw [if_pos (List.mem_map.2 ⟨p,hp,rfl⟩)]
 rfl
theorem actL_none (L:List Pr):actL L []=L.map (revOf 1):=by
 unfold actL
 refine List.map_congr_left fun p hp=>?_
 rw [if_neg (by simp)]
theorem key_uniq {L:List Pr}(hn:(L.map (·.key)).Nodup) {p q:Pr}(hp:p∈L) (hq:q∈L) (e:p.key=q.key):p=q:=by
 obtain ⟨i,hi,rfl⟩:=List.getElem_of_mem hp
 obtain ⟨j,hj,rfl⟩:=List.getElem_of_mem hq
 have h:=List.pairwise_iff_getElem.1 hn
 rcases Nat.lt_trichotomy i j with hlt|rfl|hlt
 ·exact absurd (by rw [List.getElem_map,List.getElem_map];exact e) (h i j (by simpa using hi) (by simpa using hj) hlt)
 ·rfl
 ·exact absurd (by rw [List.getElem_map,List.getElem_map];exact e.symm) (h j i (by simpa using hj) (by simpa using hi) hlt)
theorem act_step {L:List Pr}(hn:(L.map (·.key)).Nodup) {left:List ByteArray}{a:ByteArray}(ha:a∈left) {u:Value}(hu:(a,u)∈(actL L left).map prE) :
 ∃ p:Pr,u=.agg #[.string p.val,.int .i64 p.rev]∧mput ((actL L left).map prE) a (.agg #[.string p.val,.int .i64 1])=(actL L (left.filter fun z=>decide (z≠a))).map prE:=by
 obtain ⟨q,hq,e⟩:=List.mem_map.1 hu
 obtain ⟨p,hp,e2⟩:=List.mem_map.1 hq
 have hk:q.key=a:=congrArg Prod.fst e
 have hpk:p.key=a:=by
  rw [← hk,← e2]
  split<;>rfl
 rw [if_pos (by rw [hpk];exact ha)] at e2
 subst e2
 refine ⟨p,(congrArg Prod.snd e).symm,?_⟩
 have hin:a∈((actL L left).map prE).map (·.1):=by
  rw [prE_keys,actL_keys]
  exact List.mem_map.2 ⟨p,hp,hpk⟩
 unfold mput
 rw [if_pos hin]
 unfold actL
 rw [List.map_map,List.map_map,List.map_map]
 refine List.map_congr_left fun x hx=>?_
 simp only [Function.comp_apply]
 by_cases hxa:x.key=a
 ·have hxp:x=p:=key_uniq hn hx hp (by rw [hxa,hpk])
  subst hxp
  have h1:x.key∈left:=by rw [hxa];exact ha
  have h2:x.key∉left.filter fun z=>decide (z≠a):=by rw [hxa];simp
  rw [if_pos h1,if_neg h2,if_pos (show (prE x).1=a from hxa)]
  subst hxa
  rfl
 ·have hne:∀ y:Pr,y.key=x.key→¬ (prE y).1=a:=fun y hy h=>hxa (by rw [← hy];exact h)
  by_cases h1:x.key∈left
  ·have h2:x.key∈left.filter fun z=>decide (z≠a):=List.mem_filter.2 ⟨h1,by simpa using hxa⟩
   rw [if_pos h1,if_pos h2,if_neg (hne x rfl)]
  ·have h2:x.key∉left.filter fun z=>decide (z≠a):=fun h=>h1 (List.mem_filter.1 h).1
   rw [if_neg h1,if_neg h2,if_neg (hne (revOf 1 x) rfl)]
theorem mact_s {G:GH}{mb kb:Nat}{act:Bool}{D:List Ls}{oM:Obj}{l:List Pr}(hw:MapW l) (hM:MapP l oM) :
 Con Tryz.prog 61 #[.pointer (some ⟨mb,0,none⟩)] G [(mb,mcO kb act D),(kb,oM)] (fun r G' μ'=>G'=G∧r=.tuple #[]∧∃ oM',MapP (if act=true then l else l.map (revOf 1)) oM'∧μ'=[(mb,mcO kb true D),(kb,oM')]):=by
 cases act with
 | true =>
  (refine v_enter Tryz.func61 rfl Tryz.ntmps61 rfl ?_;intro B _)
  repeat' (first|apply v_seq|apply v_region|apply v_nil|apply v_pure;(case hop=>first|apply p_move<;>rfl|apply p_fieldAddrB<;>rfl|apply p_nilCheck<;>rfl|fail);(case hd=>rfl)|apply v_condT;(case hc=>rfl)|apply v_read;(case hop=>(apply r_load1;rfl;(apply Cell.own;(case h=>repeat exact mhd _);rfl)));(case hd=>rfl)|fail)
  exact v_ret [(mb,mcO kb true D),(kb,oM)] (outsA0 rfl) (List.Sublist.refl _) ⟨rfl,rfl,oM,hM,rfl⟩
 | false =>
  obtain ⟨L,hp,hMB⟩:=id hM
  have hnd:=keys_nodup hp hw.1 hw.2.1
  have hall:=actL_all L
  rw [if_neg (by simp)]
  (refine v_enter Tryz.func61 rfl Tryz.ntmps61 rfl ?_;intro B _)
  repeat' (first|apply v_seq|apply v_region|apply v_nil|apply v_skip|apply v_block|apply v_pure;(case hop=>first|apply p_move<;>rfl|apply p_fieldAddrB<;>rfl|apply p_nilCheck<;>rfl|fail);(case hd=>rfl)|apply v_condF;(case hc=>rfl)|apply v_rangeM (hb:=(by repeat (first|exact mhd _|apply mtl))) (hM:=hMB);(case hx|hd=>rfl);intro it oI hI|apply v_read;(case hop=>(apply r_load1;rfl;(apply Cell.own;(case h=>repeat exact mhd _);rfl)));(case hd=>rfl)|apply v_store;(case hp|hx|hc|hsz|h1=>rfl);(case hb=>repeat exact mhd _);(case hfit=>exact nle rfl);(case hov=>((repeat (first|with_reducible exact ov_nil|apply ov_cons));done));(case hu=>repeat (exact Upd.here _ _))|fail)
  rw [prE_keys] at hI
  refine v_loopI (ι:=List ByteArray) [15,0] (fun left vs G' μ'=>G'=G∧∃ oM oI,IterB keyS kb ((actL L left).map prE) left oM oI∧left.Nodup∧vs=[.pointer (some ⟨it,0,none⟩),.pointer (some ⟨mb,0,none⟩)]∧μ'=[(it,oI),(mb,mcO kb true D),(kb,oM)]) (fun left=>left.length) rfl (L.map (·.key)) ⟨rfl,oM,oI,by rw [hall];exact hI,hnd,rfl,rfl⟩ ?_
  rintro left vs G' _ ⟨hG',oM1,oI1,hI1,hn1,rfl,rfl⟩
  subst G'
  have hMB1:=hI1.map
  repeat' (first|apply v_seq|apply v_region|apply v_nextM (k:=9) (hb:=(by repeat (first|exact mhd _|apply mtl))) (hI:=hI1);(case hx=>rfl);(case hp=>exact List.Perm.refl _);(case hd=>rfl)|fail)
  ·intro h0
   subst h0
   repeat' (first|apply v_seq|apply v_nil|apply v_exit;(case hp=>rfl)|apply v_pure;(case hop=>(apply p_extract0<;>rfl));(case hd=>rfl)|apply v_condF;(case hc=>rfl)|fail)
   rw [actL_none] at hMB1
   refine v_perm (ν:=[(mb,mcO kb true D),(kb,oM1),(it,oI1)]) (by apply perm_of_count;intro p;simp only [List.append_eq,List.countP_append,List.countP_cons,List.countP_nil,Nat.zero_add,Nat.add_zero];try ac_rfl) ?_
   exact v_end [(mb,mcO kb true D),(kb,oM1)] (outsA0 rfl) (by repeat (first|exact List.nil_sublist _|apply List.Sublist.cons_cons)) ⟨rfl,rfl,oM1,⟨L.map (revOf 1),hp.map _,hMB1⟩,rfl⟩
  ·intro a u oI2 ha hau hI2 hE
   obtain ⟨p,rfl,hput⟩:=act_step hnd ha hau
   repeat' (first|apply v_alloc (d:=3);(case hz|hd=>rfl);intro b3|apply v_seq|apply v_region|apply v_nil|apply v_skip|apply v_block|apply v_pure;(case hop=>first|apply p_assign<;>rfl|apply p_fieldAddrB<;>rfl|apply p_extract0<;>rfl|apply p_extract1<;>rfl|fail);(case hd=>rfl)|apply v_condT;(case hc=>rfl)|apply v_read;(case hop=>apply r_entry (hE:=hE);(case hx=>rfl);(case hi=>repeat exact mhd _);(case hb=>repeat first|exact mhd _|apply mtl));(case hd=>rfl)|apply v_store;(case hp|hx|hc|hsz|h1=>rfl);(case hb=>repeat exact mhd _);(case hfit=>exact nle rfl);(case hov=>((repeat (first|with_reducible exact ov_nil|apply ov_cons));done));(case hu=>repeat (exact Upd.here _ _))|fail)
   refine v_has (σ':=[(2,keyS a),(3,.pointer (some ⟨b3,0,none⟩)),(15,.pointer (some ⟨it,0,none⟩)),(0,.pointer (some ⟨mb,0,none⟩))]) ⟨rfl,rfl,rfl,rfl,trivial⟩ ?_
   refine d_start [(b3,.cells [.string p.val,.int .i64 1].toArray 92 (0,0)),(it,oI2),(mb,mcO kb true D)] (by kernel_rfl) (by kernel_rfl) (by kernel_rfl) (by intro e he;(simp only [List.mem_cons,List.not_mem_nil,or_false] at he;rcases he with rfl|rfl|rfl<;>simp;done)) ?_
   all_goals (apply dtm 0;(case hi|hx=>rfl);(case hq=>kernel_rfl);apply dtn 1;(case hi|hx=>rfl);(case hq=>kernel_rfl))
   all_goals (apply dtk 2;(case hi=>rfl);(case hop=>(apply prd;apply p_fieldAddrB<;>rfl));(case hq=>kernel_rfl);apply dtk 3;(case hi=>rfl);(case hop=>first|apply r_loadNo;(case hx=>rfl);(case h=>repeat fail);(case hd=>repeat fail);(case hn=>rfl)|apply r_load1;rfl;(apply Cell.own;(case h=>repeat first|exact mhd _|apply mtl);rfl)|apply r_loadN;rfl;(apply CellsAt.own;(case h=>repeat fail));rfl);(case hq=>kernel_rfl))
   all_goals (apply dtm 4;(case hi|hx=>rfl);(case hq=>kernel_rfl);apply dtk 5;(case hi=>rfl);(case hop=>first|apply r_loadNo;(case hx=>rfl);(case h=>repeat exact mhd _);(case hd=>repeat first|with_reducible exact dt_nil|apply dt_here);(case hn=>rfl)|apply r_load1;rfl;(apply Cell.own;(case h=>repeat fail);rfl)|apply r_loadN;rfl;(apply CellsAt.own;(case h=>repeat fail));rfl);(case hq=>kernel_rfl))
   all_goals ((apply d_exec0 6;(case hi=>rfl);(case hr=>kernel_rfl);(case hop=>exact m_mapUpdate (k:=9) (mk:=keyS) a rfl rfl rfl (PickA.perm (ν:=[(kb,oM1)]) (by repeat (first|exact PickA.last|apply PickA.cons))) hMB1);rintro _ G4 _ ⟨oM2,hM2,hK2,hG4,rfl⟩;subst G4;refine ⟨(by intro e he;simp only [List.mem_cons,List.not_mem_nil,or_false] at he;rcases he with rfl|rfl|rfl<;>simp),?_⟩))
   all_goals (apply d_done;(case hr=>kernel_rfl))
   have hI3:=hK2 _ _ _ (List.mem_map.2 ⟨_,hau,rfl⟩) hI2
   rw [hput] at hI3
   repeat' (first|apply v_blk)
   refine v_perm (ν:=[(it,oI2),(mb,mcO kb true D),(kb,oM2),(b3,_)]) (by apply perm_of_count;intro p;simp only [List.append_eq,List.countP_append,List.countP_cons,List.countP_nil,Nat.zero_add,Nat.add_zero];try ac_rfl) ?_
   refine v_drop (ν:=[(it,oI2),(mb,mcO kb true D),(kb,oM2)]) (by repeat (first|exact List.nil_sublist _|apply List.Sublist.cons_cons)) ?_
   refine v_againI (left.filter fun z=>decide (z≠a)) rfl ⟨rfl,oM2,oI2,hI3,hn1.sublist List.filter_sublist,rfl,rfl⟩ ?_
   have:(left.filter fun z=>decide (z≠a)).length<left.length:=by
    refine List.length_filter_lt_length_iff_exists.2 ⟨a,ha,by simp⟩
   exact this
noncomputable def specS (s:St) (c:Cm):St×An:=if cmdI c≠0 then (s,zA) else ((applyS s c).1,(applyS s c).2.1)
theorem MachR.same {s t:St}{D:List Ls}(h:MachR s D) (e:t.sess=s.sess):MachR t D:=⟨h.len,by rw [e];exact h.ses⟩
theorem specS_ok {s:St}{c:Cm}(h:StP s):StP (specS s c).1:=by
 unfold specS
 by_cases h0:cmdI c=0
 ·rw [if_neg (by simp [h0])]
  exact (applyS_ok h (by rw [applyS_err];exact h0)).1
 ·rw [if_pos h0]
  exact h
set_option maxHeartbeats 2000000 in
theorem mstep_s {G:GH}(hT:TabsG G) {mb kb:Nat}{s:St}{D:List Ls}{oM:Obj}(c:Cm) (hs:StP s) (hm:MachR s D) (hM:MapP s.pairs oM) (hc:c.ok) (hv:c.val.size≤200) :
 Con Tryz.prog 45 #[.pointer (some ⟨mb,0,none⟩),.agg c.cells.toArray] G [(mb,mcO kb (decide (s.schema=2)) D),(kb,oM)]
  (fun r G' μ'=>∃ b D' oM',r=.tuple [.agg (specS s c).2.cells.toArray,.bool b].toArray∧MachR (specS s c).1 D'∧MapP (specS s c).1.pairs oM'∧μ'=[(mb,mcO kb (decide ((specS s c).1.schema=2)) D'),(kb,oM')]):=by
 have qc:=cmdCheck_s hT c hc
 have qo:=fun G=>cmdOwned_s G c
 have qk:=fun (G:GH) h0 ho=>mclient_s (G:=G) (mb:=mb) (kb:=kb) c hs hm hM h0 ho hv
 have qa:=fun (G:GH)=>mact_s (G:=G) (mb:=mb) (kb:=kb) (act:=decide (s.schema=2)) (D:=D) hs.mapW hM
 have hsch:s.schema=1∨s.schema=2:=(stP_iff.1 hs).2.1
 unfold specS applyS
 obtain ⟨kind,client,seq,key,val,old,node⟩:=c
 generalize cmdI ⟨kind,client,seq,key,val,old,node⟩=ci at *
 generalize clientS s ⟨kind,client,seq,key,val,old,node⟩=cs at *
 simp only at *
 (refine v_enter Tryz.func45 rfl Tryz.ntmps45 rfl ?_;intro B _)
 repeat' (first|apply v_box (d:=3) (zs:=Cm.cells ⟨kind,client,seq,key,val,old,node⟩);(case hx|hz|hd=>rfl);intro b3|apply v_alloc (d:=4);(case hz|hd=>rfl);intro b4|apply v_read;(case hop=>(apply r_loadNo;(case hx=>rfl);(case h=>repeat first|exact mhd _|apply mtl);(case hd|hn=>rfl)));(case hd=>rfl)|apply v_seq|apply v_region|apply v_nil|apply v_block|apply v_take;(case hg=>rfl)|apply v_pure;(case hop=>first|apply p_move<;>rfl|apply p_assign<;>rfl|apply p_eqNil<;>rfl|fail);(case hd=>rfl)|fail)
 refine v_call (μ1:=[]) rfl qc (List.Perm.refl _) rfl ?_
 rintro _ G1 _ hle1 ⟨rfl,rfl⟩
 by_cases h0:ci=0
 ·subst h0
  rw [if_neg (by simp),if_neg (by simp)]
  repeat' (first|apply v_read;(case hop=>(apply r_loadNo;(case hx=>rfl);(case h=>repeat first|exact mhd _|apply mtl);(case hd|hn=>rfl)));(case hd=>rfl)|apply v_seq|apply v_region|apply v_nil|apply v_skip|apply v_blk|apply v_take;(case hg=>rfl)|apply v_pure;(case hop=>first|apply p_move<;>rfl|apply p_nes<;>rfl|apply p_eq<;>rfl|apply p_assign<;>rfl|apply p_pickF<;>rfl|apply p_fieldAddrB<;>rfl|apply p_build;(case hz=>rfl);(case hv=>(simp only [List.map_cons,List.map_nil];repeat (with_reducible exact evs_nil)));(case hb=>(apply bldL;repeat (exact bld_nil)))|fail);(case hd=>rfl)|apply v_condF;(case hc=>rfl)|apply v_cond;(case hc=>rfl);all_goals (intro h;(try simp only [reduceCtorEq,zzz] at h))|apply v_callJ (hs:=qo _);(case ha|hd=>rfl)|apply v_read;(case hop=>(apply r_load1;rfl;(apply Cell.own;(case h=>repeat first|exact mhd _|apply mtl);rfl)));(case hd=>rfl)|apply v_store;(case hp|hx|hc|hsz|h1=>rfl);(case hb=>repeat exact mhd _);(case hfit=>exact nle rfl);(case hov=>((repeat (first|with_reducible exact ov_nil|apply ov_cons));done));(case hu=>repeat (exact Upd.here _ _))|fail)
  ·have ho:2≤kind∧kind≤5:=by assumption
   rw [if_pos ho]
   refine v_call (μ1:=[(mb,mcO kb (decide (s.schema=2)) D),(kb,oM)]) rfl (qk _ rfl ho) (PickA.perm (by repeat (first|exact PickA.last|apply PickA.cons))) rfl ?_
   rintro _ G2 _ - ⟨hG2,b,D2,oM2,rfl,hm2,hM2,hz2,rfl⟩
   subst G2
   obtain ⟨s2,⟨ac,aq,ae,af,av,ar⟩⟩:=cs
   simp only at hz2 hm2 hM2
   repeat' (first|apply v_nil|apply v_pure;(case hop=>first|apply p_assign<;>rfl|apply p_extract0<;>rfl|apply p_extract1<;>rfl|fail);(case hd=>rfl)|apply v_store;(case hp|hx|hc|hsz|h1=>rfl);(case hb=>repeat first|exact mhd _|apply mtl);(case hfit=>exact nle rfl);(case hov=>((repeat (first|with_reducible exact ov_nil|apply ov_cons));done));(case hu=>repeat first|exact Upd.here _ _|apply Upd.there)|fail)
   refine v_retM [(mb,mcO kb (decide (s.schema=2)) D2),(kb,oM2)] (outsM_cell_tmp (sz:=6) (vs:=[.int .i64 ac,.int .i64 aq,.int .i64 ae,.bool af,.string av,.int .i64 ar]) (e:=28) rfl rfl rfl (by repeat (first|exact mhd _|apply mtl)) rfl) (by repeat (first|exact List.nil_sublist _|apply List.Sublist.cons_cons)) ⟨b,D2,oM2,rfl,hm2,hM2,by rw [← hz2]⟩
  ·have ho:¬ (2≤kind∧kind≤5):=by assumption
   rw [if_neg ho]
   refine v_call (μ1:=[(mb,mcO kb (decide (s.schema=2)) D),(kb,oM)]) rfl (qa _) (PickA.perm (by repeat (first|exact PickA.last|apply PickA.cons))) rfl ?_
   rintro _ G2 _ - ⟨hG2,rfl,oM2,hM2,rfl⟩
   subst G2
   repeat' (first|apply v_seq|apply v_region|apply v_nil|apply v_blk|apply v_pure;(case hop=>first|apply p_assign<;>rfl|apply p_build;(case hz=>rfl);(case hv=>(simp only [List.map_cons,List.map_nil];repeat (with_reducible exact evs_nil)));(case hb=>(apply bldL;repeat (exact bld_nil)))|fail);(case hd=>rfl)|apply v_store;(case hp|hx|hc|hsz|h1=>rfl);(case hb=>repeat first|exact mhd _|apply mtl);(case hfit=>exact nle rfl);(case hov=>((repeat (first|with_reducible exact ov_nil|apply ov_cons));done));(case hu=>repeat first|exact Upd.here _ _|apply Upd.there)|fail)
   refine v_retM [(mb,mcO kb true D),(kb,oM2)] (outsM_cell_tmp (sz:=6) (vs:=zA.cells) (e:=28) rfl rfl rfl (by repeat (first|exact mhd _|apply mtl)) rfl) (by repeat (first|exact List.nil_sublist _|apply List.Sublist.cons_cons)) ?_
   have h6:kind=6:=by assumption
   rcases hsch with h1|h2
   ·rw [if_pos ⟨h6,h1⟩]
    rw [if_neg (by simp [h1])] at hM2
    exact ⟨_,D,oM2,rfl,hm.same rfl,hM2,rfl⟩
   ·rw [if_neg (fun h=>by omega)]
    rw [if_pos (by simp [h2])] at hM2
    exact ⟨_,D,oM2,rfl,hm,hM2,by rw [h2];rfl⟩
  ·have ho:¬ (2≤kind∧kind≤5):=by assumption
   have h6:¬ kind=6:=by assumption
   rw [if_neg ho,if_neg (fun h=>h6 h.1)]
   refine v_retM [(mb,mcO kb (decide (s.schema=2)) D),(kb,oM)] (outsM_cell_tmp (sz:=6) (vs:=zA.cells) (e:=28) rfl rfl rfl (by repeat (exact mhd _)) rfl) (by repeat (first|exact List.Sublist.refl _|apply List.Sublist.cons)) ⟨_,D,oM,rfl,hm,hM,rfl⟩
 ·rw [if_pos h0]
  repeat' (first|apply v_seq|apply v_region|apply v_nil|apply v_skip|apply v_blk|apply v_take;(case hg=>rfl)|apply v_pure;(case hop=>first|apply p_ne<;>rfl|apply p_assign<;>rfl|apply p_pickF<;>rfl|apply p_build;(case hz=>rfl);(case hv=>(simp only [List.map_cons,List.map_nil];repeat (with_reducible exact evs_nil)));(case hb=>(apply bldL;repeat (exact bld_nil)))|fail);(case hd=>rfl)|apply v_cond;(case hc=>rfl);all_goals (intro h;(try simp only [reduceCtorEq,zzz] at h);try (exfalso;omega))|apply v_store;(case hp|hx|hc|hsz|h1=>rfl);(case hb=>repeat exact mhd _);(case hfit=>exact nle rfl);(case hov=>((repeat (first|with_reducible exact ov_nil|apply ov_cons));done));(case hu=>repeat (exact Upd.here _ _))|fail)
  refine v_retM [(mb,mcO kb (decide (s.schema=2)) D),(kb,oM)] (outsM_cell_tmp (sz:=6) (vs:=zA.cells) (e:=28) rfl rfl rfl (by repeat (exact mhd _)) rfl) (by repeat (first|exact List.Sublist.refl _|apply List.Sublist.cons)) ⟨_,D,oM,rfl,hm,hM,rfl⟩
theorem mdo_s {G:GH}(hT:TabsG G) {mb kb:Nat}{s:St}{D:List Ls}{oM:Obj}(c:Cm) (hs:StP s) (hm:MachR s D) (hM:MapP s.pairs oM) (hc:c.ok) (hv:c.val.size≤200) :
 Con Tryz.prog 24 #[.pointer (some ⟨mb,0,none⟩),.agg c.cells.toArray] G [(mb,mcO kb (decide (s.schema=2)) D),(kb,oM)]
  (fun r G' μ'=>∃ D' oM',r=.agg (specS s c).2.cells.toArray∧MachR (specS s c).1 D'∧MapP (specS s c).1.pairs oM'∧μ'=[(mb,mcO kb (decide ((specS s c).1.schema=2)) D'),(kb,oM')]):=by
 have q:=mstep_s hT (mb:=mb) (kb:=kb) c hs hm hM hc hv
 obtain ⟨kind,client,seq,key,val,old,node⟩:=c
 generalize specS s ⟨kind,client,seq,key,val,old,node⟩=cs at *
 obtain ⟨s2,⟨ac,aq,ae,af,av,ar⟩⟩:=cs
 (refine v_enter Tryz.func24 rfl Tryz.ntmps24 rfl ?_;intro B _)
 repeat' (first|apply v_box (d:=3) (zs:=Cm.cells ⟨kind,client,seq,key,val,old,node⟩);(case hx|hz|hd=>rfl);intro b3|apply v_alloc (d:=4);(case hz|hd=>rfl);intro b4|apply v_read;(case hop=>(apply r_loadNo;(case hx=>rfl);(case h=>repeat first|exact mhd _|apply mtl);(case hd|hn=>rfl)));(case hd=>rfl)|apply v_seq|apply v_region|apply v_nil|apply v_pure;(case hop=>(apply p_move<;>rfl));(case hd=>rfl)|fail)
 refine v_call (μ1:=[(mb,mcO kb (decide (s.schema=2)) D),(kb,oM)]) rfl q (PickA.perm (by repeat (first|exact PickA.last|apply PickA.cons))) rfl ?_
 rintro _ G2 _ hle2 ⟨b,D2,oM2,rfl,hm2,hM2,rfl⟩
 repeat' (first|apply v_alloc (d:=5);(case hz|hd=>rfl);intro b5|apply v_seq|apply v_region|apply v_nil|apply v_pure;(case hop=>first|apply p_move<;>rfl|apply p_assign<;>rfl|apply p_extract0<;>rfl|apply p_extract1<;>rfl|fail);(case hd=>rfl)|apply v_read;(case hop=>(apply r_loadNo;(case hx=>rfl);(case h=>repeat exact mhd _);(case hd=>repeat first|with_reducible exact dt_nil|apply dt_here);(case hn=>rfl)));(case hd=>rfl)|apply v_store;(case hp|hx|hc|hsz|h1=>rfl);(case hb=>repeat first|exact mhd _|apply mtl);(case hfit=>exact nle rfl);(case hov=>((repeat (first|with_reducible exact ov_nil|apply ov_cons));done));(case hu=>repeat first|exact Upd.here _ _|apply Upd.there)|fail)
 refine v_perm (ν:=[(mb,mcO kb (decide (s2.schema=2)) D2),(kb,oM2),(b4,.cells [.int .i64 ac,.int .i64 aq,.int .i64 ae,.bool af,.string av,.int .i64 ar].toArray 28 (0,0)),(b5,_),(b3,_)]) (by apply perm_of_count;intro p;simp only [List.append_eq,List.countP_append,List.countP_cons,List.countP_nil,Nat.zero_add,Nat.add_zero];try ac_rfl) ?_
 refine v_retM [(mb,mcO kb (decide (s2.schema=2)) D2),(kb,oM2)] (outsM_cell (sz:=6) (vs:=[.int .i64 ac,.int .i64 aq,.int .i64 ae,.bool af,.string av,.int .i64 ar]) (e:=28) rfl rfl (by repeat (first|exact mhd _|apply mtl)) rfl) (by repeat (first|exact List.nil_sublist _|apply List.Sublist.cons_cons)) ⟨D2,oM2,rfl,hm2,hM2,rfl⟩
def laysSortT_ren:Go.Shelf.Ren:=⟨fun|6=>57|8=>66|9=>65|19=>81|20=>82|21=>72|22=>73|23=>74|24=>75|25=>76|26=>77|27=>78|28=>79|29=>80|31=>95|32=>96|36=>94|37=>97|38=>98|39=>99|41=>105|n=>n,fun|0=>0|3=>3|4=>4|5=>5|9=>9|26=>86|27=>86|29=>9|32=>113|35=>124|36=>125|41=>99|44=>132|46=>134|53=>141|57=>135|63=>149|64=>101|n=>n,fun n=>n⟩
theorem laysSortT:SlLaysM.n6 Tryz.prog laysSortT_ren where
 mixed:=by kernel_rfl
 f6:=⟨"slices.Sort[[]string,string]",by decide,Tryz.func57.trans (congrArg some (by kernel_rfl))⟩
 f8:=Tryz.func66.trans (congrArg some (by kernel_rfl))
 f9:=⟨"slices.pdqsortOrdered[string]",by decide,Tryz.func65.trans (congrArg some (by kernel_rfl))⟩
 f19:=Tryz.func81.trans (congrArg some (by kernel_rfl))
 f20:=Tryz.func82.trans (congrArg some (by kernel_rfl))
 f21:=⟨"slices.insertionSortOrdered[string]",by decide,Tryz.func72.trans (congrArg some (by kernel_rfl))⟩
 f22:=⟨"slices.heapSortOrdered[string]",by decide,Tryz.func73.trans (congrArg some (by kernel_rfl))⟩
 f23:=⟨"slices.breakPatternsOrdered[string]",by decide,Tryz.func74.trans (congrArg some (by kernel_rfl))⟩
 f24:=⟨"slices.choosePivotOrdered[string]",by decide,Tryz.func75.trans (congrArg some (by kernel_rfl))⟩
 f25:=⟨"slices.reverseRangeOrdered[string]",by decide,Tryz.func76.trans (congrArg some (by kernel_rfl))⟩
 f26:=⟨"slices.partialInsertionSortOrdered[string]",by decide,Tryz.func77.trans (congrArg some (by kernel_rfl))⟩
 f27:=⟨"cmp.Less[string]",by decide,Tryz.func78.trans (congrArg some (by kernel_rfl))⟩
 f28:=⟨"slices.partitionEqualOrdered[string]",by decide,Tryz.func79.trans (congrArg some (by kernel_rfl))⟩
 f29:=⟨"slices.partitionOrdered[string]",by decide,Tryz.func80.trans (congrArg some (by kernel_rfl))⟩
 f31:=Tryz.func95.trans (congrArg some (by kernel_rfl))
 f32:=Tryz.func96.trans (congrArg some (by kernel_rfl))
 f36:=⟨"slices.siftDownOrdered[string]",by decide,Tryz.func94.trans (congrArg some (by kernel_rfl))⟩
 f37:=⟨"slices.medianAdjacentOrdered[string]",by decide,Tryz.func97.trans (congrArg some (by kernel_rfl))⟩
 f38:=⟨"slices.medianOrdered[string]",by decide,Tryz.func98.trans (congrArg some (by kernel_rfl))⟩
 f39:=⟨"cmp.isNaN[string]",by decide,Tryz.func99.trans (congrArg some (by kernel_rfl))⟩
 f41:=⟨"slices.order2Ordered[string]",by decide,Tryz.func105.trans (congrArg some (by kernel_rfl))⟩
 t0:=Tryz.underlying0
 a0:=Tryz.isAgg0
 z0:=Tryz.sizeOf0
 v0:=Tryz.zeroValue0
 t3:=Tryz.underlying3
 a3:=Tryz.isAgg3
 z3:=Tryz.sizeOf3
 v3:=Tryz.zeroValue3
 t4:=Tryz.underlying4
 a4:=Tryz.isAgg4
 z4:=Tryz.sizeOf4
 v4:=Tryz.zeroValue4
 t5:=Tryz.underlying5
 a5:=Tryz.isAgg5
 z5:=Tryz.sizeOf5
 v5:=Tryz.zeroValue5
 t9:=Tryz.underlying9
 a9:=Tryz.isAgg9
 z9:=Tryz.sizeOf9
 v9:=Tryz.zeroValue9
 t26:=Tryz.underlying86
 a26:=Tryz.isAgg86
 z26:=Tryz.sizeOf86
 v26:=Tryz.zeroValue86
 t27:=Tryz.underlying86
 a27:=Tryz.isAgg86
 z27:=Tryz.sizeOf86
 v27:=Tryz.zeroValue86
 t29:=Tryz.underlying9
 a29:=Tryz.isAgg9
 z29:=Tryz.sizeOf9
 v29:=Tryz.zeroValue9
 t32:=Tryz.underlying113
 a32:=Tryz.isAgg113
 z32:=Tryz.sizeOf113
 v32:=Tryz.zeroValue113
 t35:=Tryz.underlying124
 a35:=Tryz.isAgg124
 z35:=Tryz.sizeOf124
 v35:=Tryz.zeroValue124
 t36:=Tryz.underlying125
 a36:=Tryz.isAgg125
 z36:=Tryz.sizeOf125
 v36:=Tryz.zeroValue125
 t41:=Tryz.underlying99
 a41:=Tryz.isAgg99
 z41:=Tryz.sizeOf99
 v41:=Tryz.zeroValue99
 t44:=Tryz.underlying132
 a44:=Tryz.isAgg132
 z44:=Tryz.sizeOf132
 v44:=Tryz.zeroValue132
 t46:=Tryz.underlying134
 a46:=Tryz.isAgg134
 z46:=Tryz.sizeOf134
 v46:=Tryz.zeroValue134
 t53:=Tryz.underlying141
 a53:=Tryz.isAgg141
 z53:=Tryz.sizeOf141
 v53:=Tryz.zeroValue141
 t57:=Tryz.underlying135
 a57:=Tryz.isAgg135
 z57:=Tryz.sizeOf135
 v57:=Tryz.zeroValue135
 t63:=Tryz.underlying149
 a63:=Tryz.isAgg149
 z63:=Tryz.sizeOf149
 v63:=Tryz.zeroValue149
 t64:=Tryz.underlying101
 a64:=Tryz.isAgg101
 z64:=Tryz.sizeOf101
 v64:=Tryz.zeroValue101
attribute [local semireducible] Con
theorem Con.ofCallsT {P:Program}{f:FuncId}{args:Array Value}{G:GH}{μ:OH}{Φ:Value→GH→OH→Prop}(h:∀ w,Mem G μ w→Calls P f args w fun e w'=>∃ v,e=.returned v∧∃ G' μ',Step G μ w G' μ' w'∧Φ v G' μ'):Con P f args G μ Φ:=by
 intro w hw
 exact (h w hw).mono fun e w' hq=>by
  obtain ⟨v,rfl,hv⟩:=hq
  exact ⟨v,rfl,hv⟩
section
variable {G:GH}{μ μ':OH}{w:World}{b:Nat}{e:TypeId}
theorem Step.mapT {vs vs':List Value}{f:Array Value→Array Value}(hw:Mem G μ w) (hb:Has μ b vs e) (hf:f vs.toArray=vs'.toArray) (hu:Upd b (.cells vs'.toArray e (0,0)) μ μ'):Step G μ w G μ' (Go.Sort.mapBlock w b f):=by
 have hg:=hw.own _ _ hb
 refine Step.upd hw hu rfl rfl rfl (by simp [Go.Sort.mapBlock]) ?_ (fun c hc=>?_)
 ·simp only [Go.Sort.mapBlock,Array.getElem?_modify,if_true,hg,Option.map_some,Go.Sort.onCells,hf]
 ·simp only [Go.Sort.mapBlock,Array.getElem?_modify]
  rw [if_neg (fun h=>hc h.symm)]
theorem Step.growT (h:Mem G μ w) (os:Array Obj):Step G μ w G μ (Go.Sort.grow w os):=by
 have hold:∀ c,c<w.heap.size→(Go.Sort.grow w os).heap[c]? = w.heap[c]? := fun c hc=>by
  show (w.heap++os)[c]? = _
  rw [Array.getElem?_append_left hc]
 refine ⟨⟨fun c o hc=>?_,fun c o hc=>?_,h.nodup,h.apart⟩,GH.le_refl _,rfl,rfl,rfl,?_,fun c hc _=>hold c hc,fun c o hc=>.inl ⟨o,hc⟩,fun c o hc=>.inl ⟨o,hc⟩⟩
 ·rw [hold c (lt_of_heap (h.g c o hc))];exact h.g c o hc
 ·rw [hold c (lt_of_heap (h.own c o hc))];exact h.own c o hc
 ·show w.heap.size≤(w.heap++os).size
  simp
end
abbrev bytesL (s:ByteArray):List UInt8:=s.data.toList
theorem enc_bytes (s:ByteArray):Go.Proofs.encStr (bytesL s)=Value.string s:=by
 obtain ⟨⟨l⟩⟩:=s
 rfl
theorem holds_ownT {G:GH}{μ:OH}{w:World}{b:Nat}{e:TypeId}{zs:List ByteArray}{spare:List Value}(hw:Mem G μ w) (hb:Has μ b (zs.map Value.string++spare) e):Go.Sort.Holds Go.Proofs.encStr w b 0 (zs.map bytesL).toArray:=by
 intro j hj
 have hj':j<zs.length:=by simpa using hj
 refine ⟨?_,?_⟩
 ·rw [Nat.zero_add]
  refine Cell.own hb ?_ w hw.sees
  rw [List.getElem?_append_left (by simpa using hj'),List.getElem?_map,List.getElem?_eq_getElem hj']
  have e:(zs.map bytesL).toArray[j]! = bytesL zs[j]:=by simp [hj']
  rw [e,enc_bytes]
  rfl
 ·have:=hw.own _ _ hb
  simp [World.frozen?,this]
theorem putCells_ownT {zs:List ByteArray}{ys:List (List UInt8)}{spare:List Value}(h:ys.length=zs.length):Go.Sort.putCells Go.Proofs.encStr 0 ys.toArray (zs.map Value.string++spare).toArray=(ys.map Go.Proofs.encStr++spare).toArray:=by
 apply Array.ext_getElem?
 intro k
 simp only [Go.Sort.putCells,Array.getElem?_mapIdx,List.getElem?_toArray,List.size_toArray,Nat.zero_le,true_and,Nat.zero_add,Nat.sub_zero]
 by_cases hk:k<ys.length
 ·rw [List.getElem?_append_left (by simp;omega),List.getElem?_append_left (by simpa using hk)]
  simp [hk,h ▸ hk]
 ·rw [List.getElem?_append_right (by simp;omega),List.getElem?_append_right (by simp;omega)]
  have hk2:¬ k<zs.length:=by omega
  simp only [List.length_map,h]
  cases spare[k-zs.length]? with
  | none=>rfl
  | some v=>simp only [Option.map_some,hk2,if_false]
def sortT (l:List ByteArray):List ByteArray:=((l.map bytesL).mergeSort fun x y=>decide (x≤y)).map fun x=>⟨x.toArray⟩
theorem sortT_perm (l:List ByteArray):(sortT l).Perm l:=by
 have h:=(List.mergeSort_perm (l.map bytesL) (fun x y=>decide (x≤y))).map (fun x=>(⟨x.toArray⟩:ByteArray))
 have e:(l.map bytesL).map (fun x=>(⟨x.toArray⟩:ByteArray))=l:=by
  rw [List.map_map]
  conv=>rhs;rw [← List.map_id l]
  refine List.map_congr_left fun s _=>?_
  obtain ⟨⟨x⟩⟩:=s
  rfl
 rw [e] at h
 exact h
theorem le_kn {x y:List UInt8}(hx:x.length≤200) (hy:y.length≤200) (h:x≤y):knL 200 x≤knL 200 y:=by
 rcases Nat.lt_or_ge (knL 200 y) (knL 200 x) with hlt|hge
 ·have h1:=(knL_cmp 200 y x hy hx).1
  rw [Go.Proofs.bytesLess_eq,decide_eq_decide] at h1
  exact absurd (h1.2 hlt) (List.not_lt.2 h)
 ·exact hge
theorem sortT_le (l:List ByteArray) (hz:∀ s∈l,s.size≤200):(sortT l).Pairwise (fun a b=>kn a≤kn b):=by
 have h:=List.pairwise_mergeSort (le:=fun (x y:List UInt8)=>decide (x≤y)) (fun a b c h1 h2=>by simp only [decide_eq_true_eq] at *;exact List.le_trans h1 h2) (fun a b=>by simp only [Bool.or_eq_true,decide_eq_true_eq];exact List.le_total a b) (l.map bytesL)
 have hm:∀ x∈(l.map bytesL).mergeSort (fun x y=>decide (x≤y)),x.length≤200:=fun x hx=>by
  obtain ⟨s,hs,rfl⟩:=List.mem_map.1 ((List.mergeSort_perm _ _).mem_iff.1 hx)
  exact kn_len (hz s hs)
 unfold sortT
 refine List.pairwise_map.2 (List.Pairwise.imp_of_mem (fun {a b} ha hb h=>?_) h)
 have:=le_kn (hm a ha) (hm b hb) (by simpa using h)
 unfold kn
 simpa using this
theorem sortT_s {G:GH}{zs:List ByteArray}{b cap:Nat}{e:TypeId}{spare:List Value}(hsz:zs.length<4611686018427387904) :
 Con Tryz.prog 57 #[.slice (some ⟨b,0,none⟩) zs.length cap] G [(b,.cells (zs.map Value.string++spare).toArray e (0,0))]
  (fun r G' μ'=>r=.tuple #[]∧G'=G∧μ'=[(b,.cells ((sortT zs).map Value.string++spare).toArray e (0,0))]):=by
 refine Con.ofCallsT fun w hw=>?_
 have hb:Has [(b,Obj.cells (zs.map Value.string++spare).toArray e (0,0))] b (zs.map Value.string++spare) e:=List.mem_cons_self
 have hl:(zs.map bytesL).length=zs.length:=List.length_map ..
 have hc:=AnyM.slices_Sort_string laysSortT b 0 cap (zs.map bytesL) w (holds_ownT hw hb) (lt_of_heap (hw.own _ _ hb)) (by omega)
 rw [hl] at hc
 refine hc.mono ?_
 rintro _ w' ⟨rfl,n,os,rfl⟩
 have s1:=Step.drew hw n
 have s2:=Step.mapT (f:=Go.Sort.putCells Go.Proofs.encStr 0 ((zs.map bytesL).mergeSort fun x y=>decide (x≤y)).toArray) s1.mem hb (putCells_ownT (by rw [(List.mergeSort_perm _ _).length_eq,hl])) (.here _ _)
 refine ⟨_,rfl,G,_,(s1.trans s2).trans (Step.growT s2.mem os),rfl,rfl,?_⟩
 unfold sortT
 rw [List.map_map]
 rfl
theorem sortT0_s {G:GH}{p:Option Addr}{cap:Nat}:Con Tryz.prog 57 #[.slice p 0 cap] G [] (Just (.tuple #[]) G):=by
 refine Con.ofCallsT fun w hw=>?_
 refine (AnyM.slices_Sort_string_none laysSortT p cap w).mono ?_
 rintro _ w' ⟨rfl,rfl⟩
 exact ⟨_,rfl,G,[],Step.refl hw,rfl,rfl,rfl⟩
end Go.Proofs.YtlkakbjcolgjbaaGreatDoor
