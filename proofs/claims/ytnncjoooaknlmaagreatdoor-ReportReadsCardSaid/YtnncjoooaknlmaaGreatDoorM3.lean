/-
  window (layer 30): an image in new memory; the first image.
-/
import Derived.Test.YtnncjoooaknlmaaGreatDoorM2
import Derived.Test.YtnncjoooaknlmaaGreatDoorM1
import Derived.Shelf.SortM.Plain
import Derived.Shelf.SortM.SortNone
import Derived.Shelf.Slices.CompactI
import Derived.Shelf.SlMaps.Clone
import Derived.Lib.AtoiAllCases
import Derived.Lib.ItoaNum
import Derived.Lib.ItoaMem
import Derived.Lib.Builder
import Derived.Lib.AppendStr
import Derived.Lib.UnsafeStr
import Derived.Shelf.Strconv.AtoiAll
import Derived.Shelf.Strconv.Itoa3
import Derived.Shelf.Strings.OnBuilder
import Derived.Sort.Grow
import Derived.Laws.Externs
import Derived.Laws.BytesArg
import Derived.Laws.IdiomStrings
set_option linter.unusedSimpArgs false
set_option linter.unusedVariables false
namespace Go.Proofs.YtnncjoooaknlmaaGreatDoor
open Go.Vx Go.ChangeShapes Go.WideShapes Go.ChangeAt Go.RowKit
theorem winClone_s {G:GH}{m:Im}{v:Value}(hm:ImV G m v) (hz:StZ m.st) (hco:CoZ m.confs):Con Tryz.prog 60 #[v] G [] (fun r G' μ'=>μ'=[]∧ImV G' m r):=by
 obtain ⟨C,cc,A,c,A',c',rfl,hC,hp,hss⟩:=hm
 have hs:StV G m.st (.agg [.int .i64 m.st.schema,.slice A m.st.pairs.length c,.slice A' m.st.sess.length c'].toArray):=⟨_,_,_,_,rfl,hp,hss⟩
 have hcn:=fun G' (hle:GH.le G G')=>migClone_s (G:=G') (hs.up hle) (by have:=hz.2.2.1;omega) (by have:=hz.2.2.2;omega)
 have hsz:m.st.pairs.length≤200∧m.st.sess.length≤200:=⟨by have:=hz.2.2.1;omega,by have:=hz.2.2.2;omega⟩
 have hcl:=hco.1
 have hbig:=hco.2
 obtain ⟨C0,cc0,mA,mc,eC,hlc,hcm,hsome,hcp,hc0,hc1,hmv,hwf⟩:=coOpen hC
 cases eC
 simp only [maxLen] at hcm
 obtain ⟨ix,ac,lc,⟨z,lp,ls⟩⟩:=m
 simp only at *
 (refine v_enter Tryz.func60 rfl Tryz.ntmps60 rfl ?_;intro B _)
 repeat' (first|(refine Wx 1 (zs:=[.int .i64 ix,.int .i64 ac,.slice C lc.length cc,.int .i64 z,.slice A lp.length c,.slice A' ls.length c']) ?_;intro b1)|(refine Wd 2 ?_;intro b2)|(refine Wd 3 ?_;intro b3)|refine Ro ?_|refine Wa ?_|(refine Wc ⟨?_,?_⟩<;>first|intro h|exact ⟨⟩)|refine Wr ?_|(refine Wb ?_;intro b)|fail)
 refine v_loop [11,10,9,3,1,2] (fun us G' μ'=>GH.le G G'∧∃ (k:Nat) (O:Option Addr) (oc:Nat) (css:List (List Value)) (ν:OH),k≤lc.length∧us=[Value.int .i64 (k:Int),.int .i64 lc.length,.slice C lc.length cc,.pointer (some ⟨b3,0,none⟩),.pointer (some ⟨b1,0,none⟩),.pointer (some ⟨b2,0,none⟩)]∧CoCells G' (lc.take k) css∧Grow 172 2 (.slice O k oc) k css.flatten ν∧μ'=(b3,.cells [.int .i64 ix,.int .i64 ac,.slice O k oc,.int .i64 z,.slice A lp.length c,.slice A' ls.length c'].toArray 79 (0,0))::(b2,.cells [.int .i64 0,.int .i64 0,.slice none 0 0,.int .i64 0,.slice none 0 0,.slice none 0 0].toArray 79 (0,0))::(b1,.cells [.int .i64 ix,.int .i64 ac,.slice C lc.length cc,.int .i64 z,.slice A lp.length c,.slice A' ls.length c'].toArray 79 (0,0))::ν) (fun us=>lc.length-(headI us).toNat) rfl ⟨GH.le_refl _,0,none,0,[],[],by omega,rfl,CoCells.nil,Grow.nil _ _,rfl⟩ ?_
 rintro us G' _ ⟨hle,k,O,oc,css,ν,hk,rfl,hcc,hg,rfl⟩
 by_cases hlt:k<lc.length
 ·have hlt2:=hbig _ (List.getElem_mem hlt)
  have hA:=hsome (by omega)
  have e1:((k:Nat):Int).toNat=k:=by omega
  have qc:=clone_s ((hmv _ hlt).mono hle) (by omega)
  have hck:=(hcp k hlt).le hle
  have hwk:=hwf k hlt
  have hmk:=hmv k hlt
  have htk:=List.take_succ_eq_append_getElem hlt
  clear hcp hc0 hc1 hmv hwf hbig
  generalize lc[k]=x at *
  obtain ⟨xf,xm⟩:=x
  generalize mA k=xA at *
  generalize mc k=xc at *
  simp only at *
  repeat' (first|refine RN hck ?_|(refine Wd 5 ?_;intro b5)|refine Wa ?_|(refine Wc ⟨?_,?_⟩<;>first|intro h|exact ⟨⟩)|refine Wr ?_|(refine Wb ?_;intro b)|fail)
  refine Dz [(b5,.cells ([.int .i64 xf,.slice xA xm.length xc]).toArray 172 (0,0))] ?_
  all_goals refine Dt [0,2,3,4,5] ?_
  focus
   refine d_fork 1 6 (by kernel_rfl) ?_ ?_
   rotate_right
   focus
    first|apply x_exec 6;(case hi=>rfl);(case hop=>exact ReadOp.move (r_load1 rfl (Cell.own aM rfl)));(case hd=>rfl);rintro _ G0 _ ⟨rfl,hG0,rfl⟩;subst G0;refine ⟨(by intro e he;simp at he;simp [he]),?_⟩|apply x_call 6 (hs:=qc) (μ1:=[]);(case hi|ha=>rfl);(case hp=>exact List.Perm.refl _);(case hd=>rfl);(case hν'=>intro e he;simp at he;simp [he]);rintro r1 G1 ν1 - ⟨hG1,hg1⟩;subst G1;obtain ⟨A1,c1,rfl,-,-⟩:=hg1.shape|apply x_buildSlice 6;(case hi=>rfl);(case hT=>infer_instance);(case hL=>infer_instance);(case hz|hl=>rfl);(case hv=>(simp only [List.map_cons,List.map_nil];repeat (first|with_reducible exact evs_nil|apply evs_cons;(case h1=>rfl))));(case hp=>(first|with_reducible exact pk_nil|apply pk_cons;(case hc|hs=>rfl);(case h=>(first|with_reducible exact pk_nil|apply pk_cons;(case hc|hs=>rfl);(case h=>(first|with_reducible exact pk_nil|apply pk_cons;(case hc|hs=>rfl);(case h=>(first|with_reducible exact pk_nil|apply pk_cons;(case hc|hs=>rfl);(case h=>(first|with_reducible exact pk_nil|apply pk_cons;(case hc|hs=>rfl);(case h=>(first|with_reducible exact pk_nil|apply pk_cons;(case hc|hs=>rfl);(case h=>(first|with_reducible exact pk_nil|apply pk_cons;(case hc|hs=>rfl);(case h=>(first|with_reducible exact pk_nil|apply pk_cons;(case hc|hs=>rfl);(case h=>(with_reducible exact pk_nil));(case he=>(first|((repeat (first|with_reducible exact ap_nil|apply ap_cons));done)|rfl))|rfl));(case he=>(first|((repeat (first|with_reducible exact ap_nil|apply ap_cons));done)|rfl))|rfl));(case he=>(first|((repeat (first|with_reducible exact ap_nil|apply ap_cons));done)|rfl))|rfl));(case he=>(first|((repeat (first|with_reducible exact ap_nil|apply ap_cons));done)|rfl))|rfl));(case he=>(first|((repeat (first|with_reducible exact ap_nil|apply ap_cons));done)|rfl))|rfl));(case he=>(first|((repeat (first|with_reducible exact ap_nil|apply ap_cons));done)|rfl))|rfl));(case he=>(first|((repeat (first|with_reducible exact ap_nil|apply ap_cons));done)|rfl))|rfl));(case he=>(first|((repeat (first|with_reducible exact ap_nil|apply ap_cons));done)|rfl))|rfl));(case hb|hd=>rfl);(case hν=>intro e he;first|exact he|(cases he;done)|(simp at he;simp [he];done)|(simp only [List.mem_cons,List.not_mem_nil,or_false] at he;rcases he with rfl|rfl<;>simp;done)|(simp only [List.mem_cons,List.not_mem_nil,or_false] at he;rcases he with rfl|rfl|rfl<;>simp;done)|(simp at he ⊢;try omega));intro b7|apply x_append 6 (hg:=hg) (q':=1) (us:=[.int .i64 xf,.slice A1 xm.length c1]) (hp:=PickA.perm (PickA.cons _ (PickA.app _ (PickA.cons _ (PickA.cons _ (PickA.cons _ (PickA.cons _ PickA.last))))))) (hsrc:=Src.own (e:=172) (List.Mem.head _) rfl);(case hi=>rfl);(case hT=>infer_instance);(case hL=>infer_instance);(case hzs=>rfl);(case hsz=>omega);(case hs|hx=>rfl);(case hb=>omega);(case hb'=>simp only [maxLen];omega);(case hd=>rfl);(case h1=>first|rfl|assumption);(case hν=>intro e he;first|exact he|(cases he;done)|(simp at he;simp [he];done)|(simp only [List.mem_cons,List.not_mem_nil,or_false] at he;rcases he with rfl|rfl<;>simp;done)|(simp only [List.mem_cons,List.not_mem_nil,or_false] at he;rcases he with rfl|rfl|rfl<;>simp;done)|(simp at he ⊢;try omega));intro v5 n5 g5;obtain ⟨A5,c5,rfl,-,-⟩:=g5.shape|fail
    all_goals refine Dt [7] ?_
    focus
     refine d_fork 1 8 (by kernel_rfl) ?_ ?_
     rotate_right
     focus
      first|apply x_exec 8;(case hi=>rfl);(case hop=>exact ReadOp.move (r_load1 rfl (Cell.own aM rfl)));(case hd=>rfl);rintro _ G0 _ ⟨rfl,hG0,rfl⟩;subst G0;refine ⟨(by intro e he;simp at he;simp [he]),?_⟩|apply x_call 8 (hs:=qc) (μ1:=[]);(case hi|ha=>rfl);(case hp=>exact List.Perm.refl _);(case hd=>rfl);(case hν'=>intro e he;simp at he;simp [he]);rintro r1 G1 ν1 - ⟨hG1,hg1⟩;subst G1;obtain ⟨A1,c1,rfl,-,-⟩:=hg1.shape|apply x_buildSlice 8;(case hi=>rfl);(case hT=>infer_instance);(case hL=>infer_instance);(case hz|hl=>rfl);(case hv=>(simp only [List.map_cons,List.map_nil];repeat (first|with_reducible exact evs_nil|apply evs_cons;(case h1=>rfl))));(case hp=>(first|with_reducible exact pk_nil|apply pk_cons;(case hc|hs=>rfl);(case h=>(first|with_reducible exact pk_nil|apply pk_cons;(case hc|hs=>rfl);(case h=>(first|with_reducible exact pk_nil|apply pk_cons;(case hc|hs=>rfl);(case h=>(first|with_reducible exact pk_nil|apply pk_cons;(case hc|hs=>rfl);(case h=>(first|with_reducible exact pk_nil|apply pk_cons;(case hc|hs=>rfl);(case h=>(first|with_reducible exact pk_nil|apply pk_cons;(case hc|hs=>rfl);(case h=>(first|with_reducible exact pk_nil|apply pk_cons;(case hc|hs=>rfl);(case h=>(first|with_reducible exact pk_nil|apply pk_cons;(case hc|hs=>rfl);(case h=>(with_reducible exact pk_nil));(case he=>(first|((repeat (first|with_reducible exact ap_nil|apply ap_cons));done)|rfl))|rfl));(case he=>(first|((repeat (first|with_reducible exact ap_nil|apply ap_cons));done)|rfl))|rfl));(case he=>(first|((repeat (first|with_reducible exact ap_nil|apply ap_cons));done)|rfl))|rfl));(case he=>(first|((repeat (first|with_reducible exact ap_nil|apply ap_cons));done)|rfl))|rfl));(case he=>(first|((repeat (first|with_reducible exact ap_nil|apply ap_cons));done)|rfl))|rfl));(case he=>(first|((repeat (first|with_reducible exact ap_nil|apply ap_cons));done)|rfl))|rfl));(case he=>(first|((repeat (first|with_reducible exact ap_nil|apply ap_cons));done)|rfl))|rfl));(case he=>(first|((repeat (first|with_reducible exact ap_nil|apply ap_cons));done)|rfl))|rfl));(case hb|hd=>rfl);(case hν=>intro e he;first|exact he|(cases he;done)|(simp at he;simp [he];done)|(simp only [List.mem_cons,List.not_mem_nil,or_false] at he;rcases he with rfl|rfl<;>simp;done)|(simp only [List.mem_cons,List.not_mem_nil,or_false] at he;rcases he with rfl|rfl|rfl<;>simp;done)|(simp at he ⊢;try omega));intro b7|apply x_append 8 (hg:=hg) (q':=1) (us:=[.int .i64 xf,.slice A1 xm.length c1]) (hp:=PickA.perm (PickA.cons _ (PickA.app _ (PickA.cons _ (PickA.cons _ (PickA.cons _ (PickA.cons _ PickA.last))))))) (hsrc:=Src.own (e:=172) (List.Mem.head _) rfl);(case hi=>rfl);(case hT=>infer_instance);(case hL=>infer_instance);(case hzs=>rfl);(case hsz=>omega);(case hs|hx=>rfl);(case hb=>omega);(case hb'=>simp only [maxLen];omega);(case hd=>rfl);(case h1=>first|rfl|assumption);(case hν=>intro e he;first|exact he|(cases he;done)|(simp at he;simp [he];done)|(simp only [List.mem_cons,List.not_mem_nil,or_false] at he;rcases he with rfl|rfl<;>simp;done)|(simp only [List.mem_cons,List.not_mem_nil,or_false] at he;rcases he with rfl|rfl|rfl<;>simp;done)|(simp at he ⊢;try omega));intro v5 n5 g5;obtain ⟨A5,c5,rfl,-,-⟩:=g5.shape|fail
      all_goals (first|apply d_keep 1 (hop:=ReadOp.move ?hop);(case hi=>rfl);(case hr=>kernel_rfl);(case hop=>(apply r_load1;rfl;(apply Cell.own;(case h=>exact aM);rfl)));(case hd=>rfl)|((apply x_exec 1;(case hi=>rfl);(case hr=>kernel_rfl);(case hop=>exact ReadOp.move (r_load1 rfl (Cell.own aM rfl)));(case hd=>rfl);rintro _ G0 _ ⟨rfl,hG0,rfl⟩;subst G0;refine ⟨(by intro e he;simp at he;simp [he]),?_⟩))|(refine DC 1 (hs:=qc) (μ1:=[]) ?_;rintro r1 G1 ν1 - ⟨hG1,hg1⟩;subst G1;obtain ⟨A1,c1,rfl,-,-⟩:=hg1.shape)|apply d_buildSlice 1;(case hi=>rfl);(case hr=>kernel_rfl);(case hT=>infer_instance);(case hL=>infer_instance);(case hz|hl=>rfl);(case hv=>(simp only [List.map_cons,List.map_nil];repeat (first|with_reducible exact evs_nil|apply evs_cons;(case h1=>rfl))));(case hp=>(first|with_reducible exact pk_nil|apply pk_cons;(case hc|hs=>rfl);(case h=>(first|with_reducible exact pk_nil|apply pk_cons;(case hc|hs=>rfl);(case h=>(first|with_reducible exact pk_nil|apply pk_cons;(case hc|hs=>rfl);(case h=>(first|with_reducible exact pk_nil|apply pk_cons;(case hc|hs=>rfl);(case h=>(first|with_reducible exact pk_nil|apply pk_cons;(case hc|hs=>rfl);(case h=>(first|with_reducible exact pk_nil|apply pk_cons;(case hc|hs=>rfl);(case h=>(first|with_reducible exact pk_nil|apply pk_cons;(case hc|hs=>rfl);(case h=>(first|with_reducible exact pk_nil|apply pk_cons;(case hc|hs=>rfl);(case h=>(with_reducible exact pk_nil));(case he=>(first|((repeat (first|with_reducible exact ap_nil|apply ap_cons));done)|rfl))|rfl));(case he=>(first|((repeat (first|with_reducible exact ap_nil|apply ap_cons));done)|rfl))|rfl));(case he=>(first|((repeat (first|with_reducible exact ap_nil|apply ap_cons));done)|rfl))|rfl));(case he=>(first|((repeat (first|with_reducible exact ap_nil|apply ap_cons));done)|rfl))|rfl));(case he=>(first|((repeat (first|with_reducible exact ap_nil|apply ap_cons));done)|rfl))|rfl));(case he=>(first|((repeat (first|with_reducible exact ap_nil|apply ap_cons));done)|rfl))|rfl));(case he=>(first|((repeat (first|with_reducible exact ap_nil|apply ap_cons));done)|rfl))|rfl));(case he=>(first|((repeat (first|with_reducible exact ap_nil|apply ap_cons));done)|rfl))|rfl));(case hb|hd=>rfl);(case hν=>exact aE);intro b7|apply d_append 1 (hg:=hg) (q':=1) (us:=[.int .i64 xf,.slice A1 xm.length c1]) (hp:=PickA.perm (PickA.cons _ (PickA.app _ (PickA.cons _ (PickA.cons _ (PickA.cons _ (PickA.cons _ PickA.last))))))) (hsrc:=Src.own (e:=172) (List.Mem.head _) rfl);(case hi=>rfl);(case hr=>kernel_rfl);(case hT=>infer_instance);(case hL=>infer_instance);(case hzs=>rfl);(case hsz=>omega);(case hs|hx=>rfl);(case hb=>omega);(case hb'=>simp only [maxLen];omega);(case hd=>rfl);(case h1=>first|rfl|assumption);(case hν=>exact aE);intro v5 n5 g5;obtain ⟨A5,c5,rfl,-,-⟩:=g5.shape|refine DS 1 ?_|fail)
      all_goals (first|apply d_keep 9 (hop:=ReadOp.move ?hop);(case hi=>rfl);(case hr=>kernel_rfl);(case hop=>(apply r_load1;rfl;(apply Cell.own;(case h=>exact aM);rfl)));(case hd=>rfl)|((apply x_exec 9;(case hi=>rfl);(case hr=>kernel_rfl);(case hop=>exact ReadOp.move (r_load1 rfl (Cell.own aM rfl)));(case hd=>rfl);rintro _ G0 _ ⟨rfl,hG0,rfl⟩;subst G0;refine ⟨(by intro e he;simp at he;simp [he]),?_⟩))|(refine DC 9 (hs:=qc) (μ1:=[]) ?_;rintro r1 G1 ν1 - ⟨hG1,hg1⟩;subst G1;obtain ⟨A1,c1,rfl,-,-⟩:=hg1.shape)|apply d_buildSlice 9;(case hi=>rfl);(case hr=>kernel_rfl);(case hT=>infer_instance);(case hL=>infer_instance);(case hz|hl=>rfl);(case hv=>(simp only [List.map_cons,List.map_nil];repeat (first|with_reducible exact evs_nil|apply evs_cons;(case h1=>rfl))));(case hp=>(first|with_reducible exact pk_nil|apply pk_cons;(case hc|hs=>rfl);(case h=>(first|with_reducible exact pk_nil|apply pk_cons;(case hc|hs=>rfl);(case h=>(first|with_reducible exact pk_nil|apply pk_cons;(case hc|hs=>rfl);(case h=>(first|with_reducible exact pk_nil|apply pk_cons;(case hc|hs=>rfl);(case h=>(first|with_reducible exact pk_nil|apply pk_cons;(case hc|hs=>rfl);(case h=>(first|with_reducible exact pk_nil|apply pk_cons;(case hc|hs=>rfl);(case h=>(first|with_reducible exact pk_nil|apply pk_cons;(case hc|hs=>rfl);(case h=>(first|with_reducible exact pk_nil|apply pk_cons;(case hc|hs=>rfl);(case h=>(with_reducible exact pk_nil));(case he=>(first|((repeat (first|with_reducible exact ap_nil|apply ap_cons));done)|rfl))|rfl));(case he=>(first|((repeat (first|with_reducible exact ap_nil|apply ap_cons));done)|rfl))|rfl));(case he=>(first|((repeat (first|with_reducible exact ap_nil|apply ap_cons));done)|rfl))|rfl));(case he=>(first|((repeat (first|with_reducible exact ap_nil|apply ap_cons));done)|rfl))|rfl));(case he=>(first|((repeat (first|with_reducible exact ap_nil|apply ap_cons));done)|rfl))|rfl));(case he=>(first|((repeat (first|with_reducible exact ap_nil|apply ap_cons));done)|rfl))|rfl));(case he=>(first|((repeat (first|with_reducible exact ap_nil|apply ap_cons));done)|rfl))|rfl));(case he=>(first|((repeat (first|with_reducible exact ap_nil|apply ap_cons));done)|rfl))|rfl));(case hb|hd=>rfl);(case hν=>exact aE);intro b7|apply d_append 9 (hg:=hg) (q':=1) (us:=[.int .i64 xf,.slice A1 xm.length c1]) (hp:=PickA.perm (PickA.cons _ (PickA.app _ (PickA.cons _ (PickA.cons _ (PickA.cons _ (PickA.cons _ PickA.last))))))) (hsrc:=Src.own (e:=172) (List.Mem.head _) rfl);(case hi=>rfl);(case hr=>kernel_rfl);(case hT=>infer_instance);(case hL=>infer_instance);(case hzs=>rfl);(case hsz=>omega);(case hs|hx=>rfl);(case hb=>omega);(case hb'=>simp only [maxLen];omega);(case hd=>rfl);(case h1=>first|rfl|assumption);(case hν=>exact aE);intro v5 n5 g5;obtain ⟨A5,c5,rfl,-,-⟩:=g5.shape|refine DS 9 ?_|fail)
      all_goals refine Dt [10] ?_
      all_goals (first|apply d_keep 11 (hop:=ReadOp.move ?hop);(case hi=>rfl);(case hr=>kernel_rfl);(case hop=>(apply r_load1;rfl;(apply Cell.own;(case h=>exact aM);rfl)));(case hd=>rfl)|((apply x_exec 11;(case hi=>rfl);(case hr=>kernel_rfl);(case hop=>exact ReadOp.move (r_load1 rfl (Cell.own aM rfl)));(case hd=>rfl);rintro _ G0 _ ⟨rfl,hG0,rfl⟩;subst G0;refine ⟨(by intro e he;simp at he;simp [he]),?_⟩))|(refine DC 11 (hs:=qc) (μ1:=[]) ?_;rintro r1 G1 ν1 - ⟨hG1,hg1⟩;subst G1;obtain ⟨A1,c1,rfl,-,-⟩:=hg1.shape)|apply d_buildSlice 11;(case hi=>rfl);(case hr=>kernel_rfl);(case hT=>infer_instance);(case hL=>infer_instance);(case hz|hl=>rfl);(case hv=>(simp only [List.map_cons,List.map_nil];repeat (first|with_reducible exact evs_nil|apply evs_cons;(case h1=>rfl))));(case hp=>(first|with_reducible exact pk_nil|apply pk_cons;(case hc|hs=>rfl);(case h=>(first|with_reducible exact pk_nil|apply pk_cons;(case hc|hs=>rfl);(case h=>(first|with_reducible exact pk_nil|apply pk_cons;(case hc|hs=>rfl);(case h=>(first|with_reducible exact pk_nil|apply pk_cons;(case hc|hs=>rfl);(case h=>(first|with_reducible exact pk_nil|apply pk_cons;(case hc|hs=>rfl);(case h=>(first|with_reducible exact pk_nil|apply pk_cons;(case hc|hs=>rfl);(case h=>(first|with_reducible exact pk_nil|apply pk_cons;(case hc|hs=>rfl);(case h=>(first|with_reducible exact pk_nil|apply pk_cons;(case hc|hs=>rfl);(case h=>(with_reducible exact pk_nil));(case he=>(first|((repeat (first|with_reducible exact ap_nil|apply ap_cons));done)|rfl))|rfl));(case he=>(first|((repeat (first|with_reducible exact ap_nil|apply ap_cons));done)|rfl))|rfl));(case he=>(first|((repeat (first|with_reducible exact ap_nil|apply ap_cons));done)|rfl))|rfl));(case he=>(first|((repeat (first|with_reducible exact ap_nil|apply ap_cons));done)|rfl))|rfl));(case he=>(first|((repeat (first|with_reducible exact ap_nil|apply ap_cons));done)|rfl))|rfl));(case he=>(first|((repeat (first|with_reducible exact ap_nil|apply ap_cons));done)|rfl))|rfl));(case he=>(first|((repeat (first|with_reducible exact ap_nil|apply ap_cons));done)|rfl))|rfl));(case he=>(first|((repeat (first|with_reducible exact ap_nil|apply ap_cons));done)|rfl))|rfl));(case hb|hd=>rfl);(case hν=>exact aE);intro b7|apply d_append 11 (hg:=hg) (q':=1) (us:=[.int .i64 xf,.slice A1 xm.length c1]) (hp:=PickA.perm (PickA.cons _ (PickA.app _ (PickA.cons _ (PickA.cons _ (PickA.cons _ (PickA.cons _ PickA.last))))))) (hsrc:=Src.own (e:=172) (List.Mem.head _) rfl);(case hi=>rfl);(case hr=>kernel_rfl);(case hT=>infer_instance);(case hL=>infer_instance);(case hzs=>rfl);(case hsz=>omega);(case hs|hx=>rfl);(case hb=>omega);(case hb'=>simp only [maxLen];omega);(case hd=>rfl);(case h1=>first|rfl|assumption);(case hν=>exact aE);intro v5 n5 g5;obtain ⟨A5,c5,rfl,-,-⟩:=g5.shape|refine DS 11 ?_|fail)
      all_goals refine Dd ?_
     rotate_right
     focus
      first|apply x_exec 1;(case hi=>rfl);(case hop=>exact ReadOp.move (r_load1 rfl (Cell.own aM rfl)));(case hd=>rfl);rintro _ G0 _ ⟨rfl,hG0,rfl⟩;subst G0;refine ⟨(by intro e he;simp at he;simp [he]),?_⟩|apply x_call 1 (hs:=qc) (μ1:=[]);(case hi|ha=>rfl);(case hp=>exact List.Perm.refl _);(case hd=>rfl);(case hν'=>intro e he;simp at he;simp [he]);rintro r1 G1 ν1 - ⟨hG1,hg1⟩;subst G1;obtain ⟨A1,c1,rfl,-,-⟩:=hg1.shape|apply x_buildSlice 1;(case hi=>rfl);(case hT=>infer_instance);(case hL=>infer_instance);(case hz|hl=>rfl);(case hv=>(simp only [List.map_cons,List.map_nil];repeat (first|with_reducible exact evs_nil|apply evs_cons;(case h1=>rfl))));(case hp=>(first|with_reducible exact pk_nil|apply pk_cons;(case hc|hs=>rfl);(case h=>(first|with_reducible exact pk_nil|apply pk_cons;(case hc|hs=>rfl);(case h=>(first|with_reducible exact pk_nil|apply pk_cons;(case hc|hs=>rfl);(case h=>(first|with_reducible exact pk_nil|apply pk_cons;(case hc|hs=>rfl);(case h=>(first|with_reducible exact pk_nil|apply pk_cons;(case hc|hs=>rfl);(case h=>(first|with_reducible exact pk_nil|apply pk_cons;(case hc|hs=>rfl);(case h=>(first|with_reducible exact pk_nil|apply pk_cons;(case hc|hs=>rfl);(case h=>(first|with_reducible exact pk_nil|apply pk_cons;(case hc|hs=>rfl);(case h=>(with_reducible exact pk_nil));(case he=>(first|((repeat (first|with_reducible exact ap_nil|apply ap_cons));done)|rfl))|rfl));(case he=>(first|((repeat (first|with_reducible exact ap_nil|apply ap_cons));done)|rfl))|rfl));(case he=>(first|((repeat (first|with_reducible exact ap_nil|apply ap_cons));done)|rfl))|rfl));(case he=>(first|((repeat (first|with_reducible exact ap_nil|apply ap_cons));done)|rfl))|rfl));(case he=>(first|((repeat (first|with_reducible exact ap_nil|apply ap_cons));done)|rfl))|rfl));(case he=>(first|((repeat (first|with_reducible exact ap_nil|apply ap_cons));done)|rfl))|rfl));(case he=>(first|((repeat (first|with_reducible exact ap_nil|apply ap_cons));done)|rfl))|rfl));(case he=>(first|((repeat (first|with_reducible exact ap_nil|apply ap_cons));done)|rfl))|rfl));(case hb|hd=>rfl);(case hν=>intro e he;first|exact he|(cases he;done)|(simp at he;simp [he];done)|(simp only [List.mem_cons,List.not_mem_nil,or_false] at he;rcases he with rfl|rfl<;>simp;done)|(simp only [List.mem_cons,List.not_mem_nil,or_false] at he;rcases he with rfl|rfl|rfl<;>simp;done)|(simp at he ⊢;try omega));intro b7|apply x_append 1 (hg:=hg) (q':=1) (us:=[.int .i64 xf,.slice A1 xm.length c1]) (hp:=PickA.perm (PickA.cons _ (PickA.app _ (PickA.cons _ (PickA.cons _ (PickA.cons _ (PickA.cons _ PickA.last))))))) (hsrc:=Src.own (e:=172) (List.Mem.head _) rfl);(case hi=>rfl);(case hT=>infer_instance);(case hL=>infer_instance);(case hzs=>rfl);(case hsz=>omega);(case hs|hx=>rfl);(case hb=>omega);(case hb'=>simp only [maxLen];omega);(case hd=>rfl);(case h1=>first|rfl|assumption);(case hν=>intro e he;first|exact he|(cases he;done)|(simp at he;simp [he];done)|(simp only [List.mem_cons,List.not_mem_nil,or_false] at he;rcases he with rfl|rfl<;>simp;done)|(simp only [List.mem_cons,List.not_mem_nil,or_false] at he;rcases he with rfl|rfl|rfl<;>simp;done)|(simp at he ⊢;try omega));intro v5 n5 g5;obtain ⟨A5,c5,rfl,-,-⟩:=g5.shape|fail
      all_goals (first|apply d_keep 8 (hop:=ReadOp.move ?hop);(case hi=>rfl);(case hr=>kernel_rfl);(case hop=>(apply r_load1;rfl;(apply Cell.own;(case h=>exact aM);rfl)));(case hd=>rfl)|((apply x_exec 8;(case hi=>rfl);(case hr=>kernel_rfl);(case hop=>exact ReadOp.move (r_load1 rfl (Cell.own aM rfl)));(case hd=>rfl);rintro _ G0 _ ⟨rfl,hG0,rfl⟩;subst G0;refine ⟨(by intro e he;simp at he;simp [he]),?_⟩))|(refine DC 8 (hs:=qc) (μ1:=[]) ?_;rintro r1 G1 ν1 - ⟨hG1,hg1⟩;subst G1;obtain ⟨A1,c1,rfl,-,-⟩:=hg1.shape)|apply d_buildSlice 8;(case hi=>rfl);(case hr=>kernel_rfl);(case hT=>infer_instance);(case hL=>infer_instance);(case hz|hl=>rfl);(case hv=>(simp only [List.map_cons,List.map_nil];repeat (first|with_reducible exact evs_nil|apply evs_cons;(case h1=>rfl))));(case hp=>(first|with_reducible exact pk_nil|apply pk_cons;(case hc|hs=>rfl);(case h=>(first|with_reducible exact pk_nil|apply pk_cons;(case hc|hs=>rfl);(case h=>(first|with_reducible exact pk_nil|apply pk_cons;(case hc|hs=>rfl);(case h=>(first|with_reducible exact pk_nil|apply pk_cons;(case hc|hs=>rfl);(case h=>(first|with_reducible exact pk_nil|apply pk_cons;(case hc|hs=>rfl);(case h=>(first|with_reducible exact pk_nil|apply pk_cons;(case hc|hs=>rfl);(case h=>(first|with_reducible exact pk_nil|apply pk_cons;(case hc|hs=>rfl);(case h=>(first|with_reducible exact pk_nil|apply pk_cons;(case hc|hs=>rfl);(case h=>(with_reducible exact pk_nil));(case he=>(first|((repeat (first|with_reducible exact ap_nil|apply ap_cons));done)|rfl))|rfl));(case he=>(first|((repeat (first|with_reducible exact ap_nil|apply ap_cons));done)|rfl))|rfl));(case he=>(first|((repeat (first|with_reducible exact ap_nil|apply ap_cons));done)|rfl))|rfl));(case he=>(first|((repeat (first|with_reducible exact ap_nil|apply ap_cons));done)|rfl))|rfl));(case he=>(first|((repeat (first|with_reducible exact ap_nil|apply ap_cons));done)|rfl))|rfl));(case he=>(first|((repeat (first|with_reducible exact ap_nil|apply ap_cons));done)|rfl))|rfl));(case he=>(first|((repeat (first|with_reducible exact ap_nil|apply ap_cons));done)|rfl))|rfl));(case he=>(first|((repeat (first|with_reducible exact ap_nil|apply ap_cons));done)|rfl))|rfl));(case hb|hd=>rfl);(case hν=>exact aE);intro b7|apply d_append 8 (hg:=hg) (q':=1) (us:=[.int .i64 xf,.slice A1 xm.length c1]) (hp:=PickA.perm (PickA.cons _ (PickA.app _ (PickA.cons _ (PickA.cons _ (PickA.cons _ (PickA.cons _ PickA.last))))))) (hsrc:=Src.own (e:=172) (List.Mem.head _) rfl);(case hi=>rfl);(case hr=>kernel_rfl);(case hT=>infer_instance);(case hL=>infer_instance);(case hzs=>rfl);(case hsz=>omega);(case hs|hx=>rfl);(case hb=>omega);(case hb'=>simp only [maxLen];omega);(case hd=>rfl);(case h1=>first|rfl|assumption);(case hν=>exact aE);intro v5 n5 g5;obtain ⟨A5,c5,rfl,-,-⟩:=g5.shape|refine DS 8 ?_|fail)
      all_goals (first|apply d_keep 9 (hop:=ReadOp.move ?hop);(case hi=>rfl);(case hr=>kernel_rfl);(case hop=>(apply r_load1;rfl;(apply Cell.own;(case h=>exact aM);rfl)));(case hd=>rfl)|((apply x_exec 9;(case hi=>rfl);(case hr=>kernel_rfl);(case hop=>exact ReadOp.move (r_load1 rfl (Cell.own aM rfl)));(case hd=>rfl);rintro _ G0 _ ⟨rfl,hG0,rfl⟩;subst G0;refine ⟨(by intro e he;simp at he;simp [he]),?_⟩))|(refine DC 9 (hs:=qc) (μ1:=[]) ?_;rintro r1 G1 ν1 - ⟨hG1,hg1⟩;subst G1;obtain ⟨A1,c1,rfl,-,-⟩:=hg1.shape)|apply d_buildSlice 9;(case hi=>rfl);(case hr=>kernel_rfl);(case hT=>infer_instance);(case hL=>infer_instance);(case hz|hl=>rfl);(case hv=>(simp only [List.map_cons,List.map_nil];repeat (first|with_reducible exact evs_nil|apply evs_cons;(case h1=>rfl))));(case hp=>(first|with_reducible exact pk_nil|apply pk_cons;(case hc|hs=>rfl);(case h=>(first|with_reducible exact pk_nil|apply pk_cons;(case hc|hs=>rfl);(case h=>(first|with_reducible exact pk_nil|apply pk_cons;(case hc|hs=>rfl);(case h=>(first|with_reducible exact pk_nil|apply pk_cons;(case hc|hs=>rfl);(case h=>(first|with_reducible exact pk_nil|apply pk_cons;(case hc|hs=>rfl);(case h=>(first|with_reducible exact pk_nil|apply pk_cons;(case hc|hs=>rfl);(case h=>(first|with_reducible exact pk_nil|apply pk_cons;(case hc|hs=>rfl);(case h=>(first|with_reducible exact pk_nil|apply pk_cons;(case hc|hs=>rfl);(case h=>(with_reducible exact pk_nil));(case he=>(first|((repeat (first|with_reducible exact ap_nil|apply ap_cons));done)|rfl))|rfl));(case he=>(first|((repeat (first|with_reducible exact ap_nil|apply ap_cons));done)|rfl))|rfl));(case he=>(first|((repeat (first|with_reducible exact ap_nil|apply ap_cons));done)|rfl))|rfl));(case he=>(first|((repeat (first|with_reducible exact ap_nil|apply ap_cons));done)|rfl))|rfl));(case he=>(first|((repeat (first|with_reducible exact ap_nil|apply ap_cons));done)|rfl))|rfl));(case he=>(first|((repeat (first|with_reducible exact ap_nil|apply ap_cons));done)|rfl))|rfl));(case he=>(first|((repeat (first|with_reducible exact ap_nil|apply ap_cons));done)|rfl))|rfl));(case he=>(first|((repeat (first|with_reducible exact ap_nil|apply ap_cons));done)|rfl))|rfl));(case hb|hd=>rfl);(case hν=>exact aE);intro b7|apply d_append 9 (hg:=hg) (q':=1) (us:=[.int .i64 xf,.slice A1 xm.length c1]) (hp:=PickA.perm (PickA.cons _ (PickA.app _ (PickA.cons _ (PickA.cons _ (PickA.cons _ (PickA.cons _ PickA.last))))))) (hsrc:=Src.own (e:=172) (List.Mem.head _) rfl);(case hi=>rfl);(case hr=>kernel_rfl);(case hT=>infer_instance);(case hL=>infer_instance);(case hzs=>rfl);(case hsz=>omega);(case hs|hx=>rfl);(case hb=>omega);(case hb'=>simp only [maxLen];omega);(case hd=>rfl);(case h1=>first|rfl|assumption);(case hν=>exact aE);intro v5 n5 g5;obtain ⟨A5,c5,rfl,-,-⟩:=g5.shape|refine DS 9 ?_|fail)
      all_goals refine Dt [10] ?_
      all_goals (first|apply d_keep 11 (hop:=ReadOp.move ?hop);(case hi=>rfl);(case hr=>kernel_rfl);(case hop=>(apply r_load1;rfl;(apply Cell.own;(case h=>exact aM);rfl)));(case hd=>rfl)|((apply x_exec 11;(case hi=>rfl);(case hr=>kernel_rfl);(case hop=>exact ReadOp.move (r_load1 rfl (Cell.own aM rfl)));(case hd=>rfl);rintro _ G0 _ ⟨rfl,hG0,rfl⟩;subst G0;refine ⟨(by intro e he;simp at he;simp [he]),?_⟩))|(refine DC 11 (hs:=qc) (μ1:=[]) ?_;rintro r1 G1 ν1 - ⟨hG1,hg1⟩;subst G1;obtain ⟨A1,c1,rfl,-,-⟩:=hg1.shape)|apply d_buildSlice 11;(case hi=>rfl);(case hr=>kernel_rfl);(case hT=>infer_instance);(case hL=>infer_instance);(case hz|hl=>rfl);(case hv=>(simp only [List.map_cons,List.map_nil];repeat (first|with_reducible exact evs_nil|apply evs_cons;(case h1=>rfl))));(case hp=>(first|with_reducible exact pk_nil|apply pk_cons;(case hc|hs=>rfl);(case h=>(first|with_reducible exact pk_nil|apply pk_cons;(case hc|hs=>rfl);(case h=>(first|with_reducible exact pk_nil|apply pk_cons;(case hc|hs=>rfl);(case h=>(first|with_reducible exact pk_nil|apply pk_cons;(case hc|hs=>rfl);(case h=>(first|with_reducible exact pk_nil|apply pk_cons;(case hc|hs=>rfl);(case h=>(first|with_reducible exact pk_nil|apply pk_cons;(case hc|hs=>rfl);(case h=>(first|with_reducible exact pk_nil|apply pk_cons;(case hc|hs=>rfl);(case h=>(first|with_reducible exact pk_nil|apply pk_cons;(case hc|hs=>rfl);(case h=>(with_reducible exact pk_nil));(case he=>(first|((repeat (first|with_reducible exact ap_nil|apply ap_cons));done)|rfl))|rfl));(case he=>(first|((repeat (first|with_reducible exact ap_nil|apply ap_cons));done)|rfl))|rfl));(case he=>(first|((repeat (first|with_reducible exact ap_nil|apply ap_cons));done)|rfl))|rfl));(case he=>(first|((repeat (first|with_reducible exact ap_nil|apply ap_cons));done)|rfl))|rfl));(case he=>(first|((repeat (first|with_reducible exact ap_nil|apply ap_cons));done)|rfl))|rfl));(case he=>(first|((repeat (first|with_reducible exact ap_nil|apply ap_cons));done)|rfl))|rfl));(case he=>(first|((repeat (first|with_reducible exact ap_nil|apply ap_cons));done)|rfl))|rfl));(case he=>(first|((repeat (first|with_reducible exact ap_nil|apply ap_cons));done)|rfl))|rfl));(case hb|hd=>rfl);(case hν=>exact aE);intro b7|apply d_append 11 (hg:=hg) (q':=1) (us:=[.int .i64 xf,.slice A1 xm.length c1]) (hp:=PickA.perm (PickA.cons _ (PickA.app _ (PickA.cons _ (PickA.cons _ (PickA.cons _ (PickA.cons _ PickA.last))))))) (hsrc:=Src.own (e:=172) (List.Mem.head _) rfl);(case hi=>rfl);(case hr=>kernel_rfl);(case hT=>infer_instance);(case hL=>infer_instance);(case hzs=>rfl);(case hsz=>omega);(case hs|hx=>rfl);(case hb=>omega);(case hb'=>simp only [maxLen];omega);(case hd=>rfl);(case h1=>first|rfl|assumption);(case hν=>exact aE);intro v5 n5 g5;obtain ⟨A5,c5,rfl,-,-⟩:=g5.shape|refine DS 11 ?_|fail)
      all_goals refine Dd ?_
   rotate_right
   focus
    first|apply x_exec 1;(case hi=>rfl);(case hop=>exact ReadOp.move (r_load1 rfl (Cell.own aM rfl)));(case hd=>rfl);rintro _ G0 _ ⟨rfl,hG0,rfl⟩;subst G0;refine ⟨(by intro e he;simp at he;simp [he]),?_⟩|apply x_call 1 (hs:=qc) (μ1:=[]);(case hi|ha=>rfl);(case hp=>exact List.Perm.refl _);(case hd=>rfl);(case hν'=>intro e he;simp at he;simp [he]);rintro r1 G1 ν1 - ⟨hG1,hg1⟩;subst G1;obtain ⟨A1,c1,rfl,-,-⟩:=hg1.shape|apply x_buildSlice 1;(case hi=>rfl);(case hT=>infer_instance);(case hL=>infer_instance);(case hz|hl=>rfl);(case hv=>(simp only [List.map_cons,List.map_nil];repeat (first|with_reducible exact evs_nil|apply evs_cons;(case h1=>rfl))));(case hp=>(first|with_reducible exact pk_nil|apply pk_cons;(case hc|hs=>rfl);(case h=>(first|with_reducible exact pk_nil|apply pk_cons;(case hc|hs=>rfl);(case h=>(first|with_reducible exact pk_nil|apply pk_cons;(case hc|hs=>rfl);(case h=>(first|with_reducible exact pk_nil|apply pk_cons;(case hc|hs=>rfl);(case h=>(first|with_reducible exact pk_nil|apply pk_cons;(case hc|hs=>rfl);(case h=>(first|with_reducible exact pk_nil|apply pk_cons;(case hc|hs=>rfl);(case h=>(first|with_reducible exact pk_nil|apply pk_cons;(case hc|hs=>rfl);(case h=>(first|with_reducible exact pk_nil|apply pk_cons;(case hc|hs=>rfl);(case h=>(with_reducible exact pk_nil));(case he=>(first|((repeat (first|with_reducible exact ap_nil|apply ap_cons));done)|rfl))|rfl));(case he=>(first|((repeat (first|with_reducible exact ap_nil|apply ap_cons));done)|rfl))|rfl));(case he=>(first|((repeat (first|with_reducible exact ap_nil|apply ap_cons));done)|rfl))|rfl));(case he=>(first|((repeat (first|with_reducible exact ap_nil|apply ap_cons));done)|rfl))|rfl));(case he=>(first|((repeat (first|with_reducible exact ap_nil|apply ap_cons));done)|rfl))|rfl));(case he=>(first|((repeat (first|with_reducible exact ap_nil|apply ap_cons));done)|rfl))|rfl));(case he=>(first|((repeat (first|with_reducible exact ap_nil|apply ap_cons));done)|rfl))|rfl));(case he=>(first|((repeat (first|with_reducible exact ap_nil|apply ap_cons));done)|rfl))|rfl));(case hb|hd=>rfl);(case hν=>intro e he;first|exact he|(cases he;done)|(simp at he;simp [he];done)|(simp only [List.mem_cons,List.not_mem_nil,or_false] at he;rcases he with rfl|rfl<;>simp;done)|(simp only [List.mem_cons,List.not_mem_nil,or_false] at he;rcases he with rfl|rfl|rfl<;>simp;done)|(simp at he ⊢;try omega));intro b7|apply x_append 1 (hg:=hg) (q':=1) (us:=[.int .i64 xf,.slice A1 xm.length c1]) (hp:=PickA.perm (PickA.cons _ (PickA.app _ (PickA.cons _ (PickA.cons _ (PickA.cons _ (PickA.cons _ PickA.last))))))) (hsrc:=Src.own (e:=172) (List.Mem.head _) rfl);(case hi=>rfl);(case hT=>infer_instance);(case hL=>infer_instance);(case hzs=>rfl);(case hsz=>omega);(case hs|hx=>rfl);(case hb=>omega);(case hb'=>simp only [maxLen];omega);(case hd=>rfl);(case h1=>first|rfl|assumption);(case hν=>intro e he;first|exact he|(cases he;done)|(simp at he;simp [he];done)|(simp only [List.mem_cons,List.not_mem_nil,or_false] at he;rcases he with rfl|rfl<;>simp;done)|(simp only [List.mem_cons,List.not_mem_nil,or_false] at he;rcases he with rfl|rfl|rfl<;>simp;done)|(simp at he ⊢;try omega));intro v5 n5 g5;obtain ⟨A5,c5,rfl,-,-⟩:=g5.shape|fail
    all_goals (first|apply d_keep 6 (hop:=ReadOp.move ?hop);(case hi=>rfl);(case hr=>kernel_rfl);(case hop=>(apply r_load1;rfl;(apply Cell.own;(case h=>exact aM);rfl)));(case hd=>rfl)|((apply x_exec 6;(case hi=>rfl);(case hr=>kernel_rfl);(case hop=>exact ReadOp.move (r_load1 rfl (Cell.own aM rfl)));(case hd=>rfl);rintro _ G0 _ ⟨rfl,hG0,rfl⟩;subst G0;refine ⟨(by intro e he;simp at he;simp [he]),?_⟩))|(refine DC 6 (hs:=qc) (μ1:=[]) ?_;rintro r1 G1 ν1 - ⟨hG1,hg1⟩;subst G1;obtain ⟨A1,c1,rfl,-,-⟩:=hg1.shape)|apply d_buildSlice 6;(case hi=>rfl);(case hr=>kernel_rfl);(case hT=>infer_instance);(case hL=>infer_instance);(case hz|hl=>rfl);(case hv=>(simp only [List.map_cons,List.map_nil];repeat (first|with_reducible exact evs_nil|apply evs_cons;(case h1=>rfl))));(case hp=>(first|with_reducible exact pk_nil|apply pk_cons;(case hc|hs=>rfl);(case h=>(first|with_reducible exact pk_nil|apply pk_cons;(case hc|hs=>rfl);(case h=>(first|with_reducible exact pk_nil|apply pk_cons;(case hc|hs=>rfl);(case h=>(first|with_reducible exact pk_nil|apply pk_cons;(case hc|hs=>rfl);(case h=>(first|with_reducible exact pk_nil|apply pk_cons;(case hc|hs=>rfl);(case h=>(first|with_reducible exact pk_nil|apply pk_cons;(case hc|hs=>rfl);(case h=>(first|with_reducible exact pk_nil|apply pk_cons;(case hc|hs=>rfl);(case h=>(first|with_reducible exact pk_nil|apply pk_cons;(case hc|hs=>rfl);(case h=>(with_reducible exact pk_nil));(case he=>(first|((repeat (first|with_reducible exact ap_nil|apply ap_cons));done)|rfl))|rfl));(case he=>(first|((repeat (first|with_reducible exact ap_nil|apply ap_cons));done)|rfl))|rfl));(case he=>(first|((repeat (first|with_reducible exact ap_nil|apply ap_cons));done)|rfl))|rfl));(case he=>(first|((repeat (first|with_reducible exact ap_nil|apply ap_cons));done)|rfl))|rfl));(case he=>(first|((repeat (first|with_reducible exact ap_nil|apply ap_cons));done)|rfl))|rfl));(case he=>(first|((repeat (first|with_reducible exact ap_nil|apply ap_cons));done)|rfl))|rfl));(case he=>(first|((repeat (first|with_reducible exact ap_nil|apply ap_cons));done)|rfl))|rfl));(case he=>(first|((repeat (first|with_reducible exact ap_nil|apply ap_cons));done)|rfl))|rfl));(case hb|hd=>rfl);(case hν=>exact aE);intro b7|apply d_append 6 (hg:=hg) (q':=1) (us:=[.int .i64 xf,.slice A1 xm.length c1]) (hp:=PickA.perm (PickA.cons _ (PickA.app _ (PickA.cons _ (PickA.cons _ (PickA.cons _ (PickA.cons _ PickA.last))))))) (hsrc:=Src.own (e:=172) (List.Mem.head _) rfl);(case hi=>rfl);(case hr=>kernel_rfl);(case hT=>infer_instance);(case hL=>infer_instance);(case hzs=>rfl);(case hsz=>omega);(case hs|hx=>rfl);(case hb=>omega);(case hb'=>simp only [maxLen];omega);(case hd=>rfl);(case h1=>first|rfl|assumption);(case hν=>exact aE);intro v5 n5 g5;obtain ⟨A5,c5,rfl,-,-⟩:=g5.shape|refine DS 6 ?_|fail)
    all_goals refine Dt [7] ?_
    all_goals (first|apply d_keep 8 (hop:=ReadOp.move ?hop);(case hi=>rfl);(case hr=>kernel_rfl);(case hop=>(apply r_load1;rfl;(apply Cell.own;(case h=>exact aM);rfl)));(case hd=>rfl)|((apply x_exec 8;(case hi=>rfl);(case hr=>kernel_rfl);(case hop=>exact ReadOp.move (r_load1 rfl (Cell.own aM rfl)));(case hd=>rfl);rintro _ G0 _ ⟨rfl,hG0,rfl⟩;subst G0;refine ⟨(by intro e he;simp at he;simp [he]),?_⟩))|(refine DC 8 (hs:=qc) (μ1:=[]) ?_;rintro r1 G1 ν1 - ⟨hG1,hg1⟩;subst G1;obtain ⟨A1,c1,rfl,-,-⟩:=hg1.shape)|apply d_buildSlice 8;(case hi=>rfl);(case hr=>kernel_rfl);(case hT=>infer_instance);(case hL=>infer_instance);(case hz|hl=>rfl);(case hv=>(simp only [List.map_cons,List.map_nil];repeat (first|with_reducible exact evs_nil|apply evs_cons;(case h1=>rfl))));(case hp=>(first|with_reducible exact pk_nil|apply pk_cons;(case hc|hs=>rfl);(case h=>(first|with_reducible exact pk_nil|apply pk_cons;(case hc|hs=>rfl);(case h=>(first|with_reducible exact pk_nil|apply pk_cons;(case hc|hs=>rfl);(case h=>(first|with_reducible exact pk_nil|apply pk_cons;(case hc|hs=>rfl);(case h=>(first|with_reducible exact pk_nil|apply pk_cons;(case hc|hs=>rfl);(case h=>(first|with_reducible exact pk_nil|apply pk_cons;(case hc|hs=>rfl);(case h=>(first|with_reducible exact pk_nil|apply pk_cons;(case hc|hs=>rfl);(case h=>(first|with_reducible exact pk_nil|apply pk_cons;(case hc|hs=>rfl);(case h=>(with_reducible exact pk_nil));(case he=>(first|((repeat (first|with_reducible exact ap_nil|apply ap_cons));done)|rfl))|rfl));(case he=>(first|((repeat (first|with_reducible exact ap_nil|apply ap_cons));done)|rfl))|rfl));(case he=>(first|((repeat (first|with_reducible exact ap_nil|apply ap_cons));done)|rfl))|rfl));(case he=>(first|((repeat (first|with_reducible exact ap_nil|apply ap_cons));done)|rfl))|rfl));(case he=>(first|((repeat (first|with_reducible exact ap_nil|apply ap_cons));done)|rfl))|rfl));(case he=>(first|((repeat (first|with_reducible exact ap_nil|apply ap_cons));done)|rfl))|rfl));(case he=>(first|((repeat (first|with_reducible exact ap_nil|apply ap_cons));done)|rfl))|rfl));(case he=>(first|((repeat (first|with_reducible exact ap_nil|apply ap_cons));done)|rfl))|rfl));(case hb|hd=>rfl);(case hν=>exact aE);intro b7|apply d_append 8 (hg:=hg) (q':=1) (us:=[.int .i64 xf,.slice A1 xm.length c1]) (hp:=PickA.perm (PickA.cons _ (PickA.app _ (PickA.cons _ (PickA.cons _ (PickA.cons _ (PickA.cons _ PickA.last))))))) (hsrc:=Src.own (e:=172) (List.Mem.head _) rfl);(case hi=>rfl);(case hr=>kernel_rfl);(case hT=>infer_instance);(case hL=>infer_instance);(case hzs=>rfl);(case hsz=>omega);(case hs|hx=>rfl);(case hb=>omega);(case hb'=>simp only [maxLen];omega);(case hd=>rfl);(case h1=>first|rfl|assumption);(case hν=>exact aE);intro v5 n5 g5;obtain ⟨A5,c5,rfl,-,-⟩:=g5.shape|refine DS 8 ?_|fail)
    all_goals (first|apply d_keep 9 (hop:=ReadOp.move ?hop);(case hi=>rfl);(case hr=>kernel_rfl);(case hop=>(apply r_load1;rfl;(apply Cell.own;(case h=>exact aM);rfl)));(case hd=>rfl)|((apply x_exec 9;(case hi=>rfl);(case hr=>kernel_rfl);(case hop=>exact ReadOp.move (r_load1 rfl (Cell.own aM rfl)));(case hd=>rfl);rintro _ G0 _ ⟨rfl,hG0,rfl⟩;subst G0;refine ⟨(by intro e he;simp at he;simp [he]),?_⟩))|(refine DC 9 (hs:=qc) (μ1:=[]) ?_;rintro r1 G1 ν1 - ⟨hG1,hg1⟩;subst G1;obtain ⟨A1,c1,rfl,-,-⟩:=hg1.shape)|apply d_buildSlice 9;(case hi=>rfl);(case hr=>kernel_rfl);(case hT=>infer_instance);(case hL=>infer_instance);(case hz|hl=>rfl);(case hv=>(simp only [List.map_cons,List.map_nil];repeat (first|with_reducible exact evs_nil|apply evs_cons;(case h1=>rfl))));(case hp=>(first|with_reducible exact pk_nil|apply pk_cons;(case hc|hs=>rfl);(case h=>(first|with_reducible exact pk_nil|apply pk_cons;(case hc|hs=>rfl);(case h=>(first|with_reducible exact pk_nil|apply pk_cons;(case hc|hs=>rfl);(case h=>(first|with_reducible exact pk_nil|apply pk_cons;(case hc|hs=>rfl);(case h=>(first|with_reducible exact pk_nil|apply pk_cons;(case hc|hs=>rfl);(case h=>(first|with_reducible exact pk_nil|apply pk_cons;(case hc|hs=>rfl);(case h=>(first|with_reducible exact pk_nil|apply pk_cons;(case hc|hs=>rfl);(case h=>(first|with_reducible exact pk_nil|apply pk_cons;(case hc|hs=>rfl);(case h=>(with_reducible exact pk_nil));(case he=>(first|((repeat (first|with_reducible exact ap_nil|apply ap_cons));done)|rfl))|rfl));(case he=>(first|((repeat (first|with_reducible exact ap_nil|apply ap_cons));done)|rfl))|rfl));(case he=>(first|((repeat (first|with_reducible exact ap_nil|apply ap_cons));done)|rfl))|rfl));(case he=>(first|((repeat (first|with_reducible exact ap_nil|apply ap_cons));done)|rfl))|rfl));(case he=>(first|((repeat (first|with_reducible exact ap_nil|apply ap_cons));done)|rfl))|rfl));(case he=>(first|((repeat (first|with_reducible exact ap_nil|apply ap_cons));done)|rfl))|rfl));(case he=>(first|((repeat (first|with_reducible exact ap_nil|apply ap_cons));done)|rfl))|rfl));(case he=>(first|((repeat (first|with_reducible exact ap_nil|apply ap_cons));done)|rfl))|rfl));(case hb|hd=>rfl);(case hν=>exact aE);intro b7|apply d_append 9 (hg:=hg) (q':=1) (us:=[.int .i64 xf,.slice A1 xm.length c1]) (hp:=PickA.perm (PickA.cons _ (PickA.app _ (PickA.cons _ (PickA.cons _ (PickA.cons _ (PickA.cons _ PickA.last))))))) (hsrc:=Src.own (e:=172) (List.Mem.head _) rfl);(case hi=>rfl);(case hr=>kernel_rfl);(case hT=>infer_instance);(case hL=>infer_instance);(case hzs=>rfl);(case hsz=>omega);(case hs|hx=>rfl);(case hb=>omega);(case hb'=>simp only [maxLen];omega);(case hd=>rfl);(case h1=>first|rfl|assumption);(case hν=>exact aE);intro v5 n5 g5;obtain ⟨A5,c5,rfl,-,-⟩:=g5.shape|refine DS 9 ?_|fail)
    all_goals refine Dt [10] ?_
    all_goals (first|apply d_keep 11 (hop:=ReadOp.move ?hop);(case hi=>rfl);(case hr=>kernel_rfl);(case hop=>(apply r_load1;rfl;(apply Cell.own;(case h=>exact aM);rfl)));(case hd=>rfl)|((apply x_exec 11;(case hi=>rfl);(case hr=>kernel_rfl);(case hop=>exact ReadOp.move (r_load1 rfl (Cell.own aM rfl)));(case hd=>rfl);rintro _ G0 _ ⟨rfl,hG0,rfl⟩;subst G0;refine ⟨(by intro e he;simp at he;simp [he]),?_⟩))|(refine DC 11 (hs:=qc) (μ1:=[]) ?_;rintro r1 G1 ν1 - ⟨hG1,hg1⟩;subst G1;obtain ⟨A1,c1,rfl,-,-⟩:=hg1.shape)|apply d_buildSlice 11;(case hi=>rfl);(case hr=>kernel_rfl);(case hT=>infer_instance);(case hL=>infer_instance);(case hz|hl=>rfl);(case hv=>(simp only [List.map_cons,List.map_nil];repeat (first|with_reducible exact evs_nil|apply evs_cons;(case h1=>rfl))));(case hp=>(first|with_reducible exact pk_nil|apply pk_cons;(case hc|hs=>rfl);(case h=>(first|with_reducible exact pk_nil|apply pk_cons;(case hc|hs=>rfl);(case h=>(first|with_reducible exact pk_nil|apply pk_cons;(case hc|hs=>rfl);(case h=>(first|with_reducible exact pk_nil|apply pk_cons;(case hc|hs=>rfl);(case h=>(first|with_reducible exact pk_nil|apply pk_cons;(case hc|hs=>rfl);(case h=>(first|with_reducible exact pk_nil|apply pk_cons;(case hc|hs=>rfl);(case h=>(first|with_reducible exact pk_nil|apply pk_cons;(case hc|hs=>rfl);(case h=>(first|with_reducible exact pk_nil|apply pk_cons;(case hc|hs=>rfl);(case h=>(with_reducible exact pk_nil));(case he=>(first|((repeat (first|with_reducible exact ap_nil|apply ap_cons));done)|rfl))|rfl));(case he=>(first|((repeat (first|with_reducible exact ap_nil|apply ap_cons));done)|rfl))|rfl));(case he=>(first|((repeat (first|with_reducible exact ap_nil|apply ap_cons));done)|rfl))|rfl));(case he=>(first|((repeat (first|with_reducible exact ap_nil|apply ap_cons));done)|rfl))|rfl));(case he=>(first|((repeat (first|with_reducible exact ap_nil|apply ap_cons));done)|rfl))|rfl));(case he=>(first|((repeat (first|with_reducible exact ap_nil|apply ap_cons));done)|rfl))|rfl));(case he=>(first|((repeat (first|with_reducible exact ap_nil|apply ap_cons));done)|rfl))|rfl));(case he=>(first|((repeat (first|with_reducible exact ap_nil|apply ap_cons));done)|rfl))|rfl));(case hb|hd=>rfl);(case hν=>exact aE);intro b7|apply d_append 11 (hg:=hg) (q':=1) (us:=[.int .i64 xf,.slice A1 xm.length c1]) (hp:=PickA.perm (PickA.cons _ (PickA.app _ (PickA.cons _ (PickA.cons _ (PickA.cons _ (PickA.cons _ PickA.last))))))) (hsrc:=Src.own (e:=172) (List.Mem.head _) rfl);(case hi=>rfl);(case hr=>kernel_rfl);(case hT=>infer_instance);(case hL=>infer_instance);(case hzs=>rfl);(case hsz=>omega);(case hs|hx=>rfl);(case hb=>omega);(case hb'=>simp only [maxLen];omega);(case hd=>rfl);(case h1=>first|rfl|assumption);(case hν=>exact aE);intro v5 n5 g5;obtain ⟨A5,c5,rfl,-,-⟩:=g5.shape|refine DS 11 ?_|fail)
    all_goals refine Dd ?_
  all_goals repeat' (first|refine Wa ?_|(refine Wc ⟨?_,?_⟩<;>first|intro h|exact ⟨⟩)|refine Wr ?_|(refine Wb ?_;intro b)|fail)
  all_goals
   (refine v_freezeP ν1 ((b3,.cells [.int .i64 ix,.int .i64 ac,.slice A5 (k+1) c5,.int .i64 z,.slice A lp.length c,.slice A' ls.length c'].toArray 79 (0,0))::(b2,.cells [.int .i64 0,.int .i64 0,.slice none 0 0,.int .i64 0,.slice none 0 0,.slice none 0 0].toArray 79 (0,0))::(b1,.cells [.int .i64 ix,.int .i64 ac,.slice C lc.length cc,.int .i64 z,.slice A lp.length c,.slice A' ls.length c'].toArray 79 (0,0))::n5) [(b7,_),(b5,_)] aV ?_
    intro G1 hle1 hG1
    refine Va rfl ⟨GH.le_trans hle hle1,k+1,A5,c5,css++[[.int .i64 xf,.slice A1 xm.length c1]],n5,by omega,rfl,?_,?_,rfl⟩
    ·rw [htk]
     obtain ⟨_,_,_,_,_,_,_,hw⟩:=hmk.openInt
     exact (hcc.le hle1).push rfl ⟨_,rfl,hwk,hg1.ints hG1 hw⟩
    ·simpa using g5)
 ·obtain rfl:k=lc.length:=by omega
  rw [List.take_length] at hcc
  have hcn:=hcn G' hle
  repeat' (first|refine Ro ?_|refine Wa ?_|(refine Wc ⟨?_,?_⟩<;>first|intro h|exact ⟨⟩)|refine Wr ?_|(refine Wb ?_;intro b)|fail)
  refine cQ rfl hcn ?_
  rintro _ G2 ν2 - ⟨hG2,bp,bs,rfl,rfl⟩
  subst hG2
  refine v_frz [(bs,.cells (rowC Ss.cells ls).toArray 322 (0,0)),(bp,.cells (rowC Pr.cells lp).toArray 344 (0,0))] (PickA.here _) ?_
  intro G3 hle3 hG3
  have hs3:StV G3 ⟨z,lp,ls⟩ _:=StV.made (s:=⟨z,lp,ls⟩) (bp:=bp) (bs:=bs) hsz.1 hsz.2 (hG3 _ _ aM) (hG3 _ _ aM)
  repeat' (first|refine Ro ?_|refine Wa ?_|(refine Wc ⟨?_,?_⟩<;>first|intro h|exact ⟨⟩)|refine Wr ?_|(refine Wb ?_;intro b)|fail)
  refine v_frz ν (PickA.cons _ (PickA.cons _ (PickA.cons _ PickA.last))) ?_
  intro G4 hle4 hG4
  have hs4:=hs3.up hle4
  have hC4:=hcc.grow hg (GH.le_trans hle3 hle4) hG4
  refine v_retM [] (outsM_cell (sz:=6) (vs:=[.int .i64 ix,.int .i64 ac,.slice O lc.length oc,.int .i64 z,.slice (some ⟨bp,0,none⟩) lp.length lp.length,.slice (some ⟨bs,0,none⟩) ls.length ls.length]) (e:=79) rfl rfl aM rfl) (List.nil_sublist _) ⟨rfl,?_⟩
  exact ImV.mk' hC4 hs4
theorem Cos.made1 {G:GH}{x:Int}{l:List Int}{A:Option Addr}{c b:Nat}(hx:(Lit.int .i64 x).wf=true) (hl:Sl G 1 (IntR .i64) (.slice A l.length c) l) (hb:G b=some (.cells [Value.int .i64 x,.slice A l.length c].toArray 172 (0,0))):Cos G (.slice (some ⟨b,0,none⟩) 1 1) [(x,l)]:=by
 have h0:CoCells G [(x,l)] [[Value.int .i64 x,.slice A l.length c]]:=CoCells.push (l:=[]) (css:=[]) CoCells.nil rfl ⟨_,rfl,hx,hl⟩
 refine h0.grow (ν:=[(b,.cells [Value.int .i64 x,.slice A l.length c].toArray 172 (0,0))]) ⟨rfl,.inr ⟨b,1,[],rfl,rfl,by simp,by simp [maxLen],rfl⟩⟩ (GH.le_refl _) (fun b' o h=>?_)
 simp only [List.mem_singleton] at h
 cases h
 exact hb
noncomputable def firstI (l:List Int):Im:=if ConfOK [(1,l)] then ⟨0,0,[(1,l)],emp⟩ else zeroIm
theorem ImV.zero (G:GH):ImV G zeroIm (.agg [.int .i64 0,.int .i64 0,.slice none 0 0,.int .i64 0,.slice none 0 0,.slice none 0 0].toArray):=ImV.mk' Sl.nil (StV.zero G)
theorem winFirst_s {G:GH}{l:List Int}{v:Value}(hs:Sl G 1 (IntR .i64) v l) (hl:l.length≤1000) :
 Con Tryz.prog 58 #[v] G [] (fun r G' μ'=>μ'=[]∧∃ v',r=.tuple [v',.int .i64 (if ConfOK [(1,l)] then 0 else 3)].toArray∧ImV G' (firstI l) v'):=by
 have qc:=clone_s hs (by omega)
 obtain ⟨_,_,_,_,_,_,_,hw⟩:=hs.openInt
 have hfi:firstI l=if ConfOK [(1,l)] then ⟨0,0,[(1,l)],emp⟩ else zeroIm:=rfl
 rw [hfi]
 clear hfi
 (refine v_enter Tryz.func58 rfl Tryz.ntmps58 rfl ?_;intro B _)
 repeat' (first|(refine Wd 2 ?_;intro b2)|refine Wa ?_|(refine Wc ⟨?_,?_⟩<;>first|intro h|exact ⟨⟩)|refine Wr ?_|(refine Wb ?_;intro b)|fail)
 refine cQ rfl qc ?_
 rintro r1 G1 ν1 - ⟨hG1,hg1⟩
 subst hG1
 obtain ⟨A1,c1,rfl,-,-⟩:=hg1.shape
 refine v_frz ν1 (PickA.here _) ?_
 intro G2 hle2 hG2
 have hl2:=hg1.ints hG2 hw
 repeat' (first|apply v_buildSlice;(case hz|hi=>rfl);(case hv=>(simp only [List.map_cons,List.map_nil];repeat (first|with_reducible exact evs_nil|apply evs_cons;(case h1=>rfl))));(case hp=>(first|with_reducible exact pk_nil|apply pk_cons;(case hc|hs=>rfl);(case h=>(first|with_reducible exact pk_nil|apply pk_cons;(case hc|hs=>rfl);(case h=>(first|with_reducible exact pk_nil|apply pk_cons;(case hc|hs=>rfl);(case h=>(first|with_reducible exact pk_nil|apply pk_cons;(case hc|hs=>rfl);(case h=>(first|with_reducible exact pk_nil|apply pk_cons;(case hc|hs=>rfl);(case h=>(first|with_reducible exact pk_nil|apply pk_cons;(case hc|hs=>rfl);(case h=>(first|with_reducible exact pk_nil|apply pk_cons;(case hc|hs=>rfl);(case h=>(first|with_reducible exact pk_nil|apply pk_cons;(case hc|hs=>rfl);(case h=>(with_reducible exact pk_nil));(case he=>(first|((repeat (first|with_reducible exact ap_nil|apply ap_cons));done)|rfl))|rfl));(case he=>(first|((repeat (first|with_reducible exact ap_nil|apply ap_cons));done)|rfl))|rfl));(case he=>(first|((repeat (first|with_reducible exact ap_nil|apply ap_cons));done)|rfl))|rfl));(case he=>(first|((repeat (first|with_reducible exact ap_nil|apply ap_cons));done)|rfl))|rfl));(case he=>(first|((repeat (first|with_reducible exact ap_nil|apply ap_cons));done)|rfl))|rfl));(case he=>(first|((repeat (first|with_reducible exact ap_nil|apply ap_cons));done)|rfl))|rfl));(case he=>(first|((repeat (first|with_reducible exact ap_nil|apply ap_cons));done)|rfl))|rfl));(case he=>(first|((repeat (first|with_reducible exact ap_nil|apply ap_cons));done)|rfl))|rfl));(case hb|hd=>rfl);intro b9|refine Wa ?_|(refine Wc ⟨?_,?_⟩<;>first|intro h|exact ⟨⟩)|refine Wr ?_|(refine Wb ?_;intro b)|fail)
 refine v_frz [(b9,.cells [Value.int .i64 1,.slice A1 l.length c1].toArray 172 (0,0))] (PickA.here _) ?_
 intro G3 hle3 hG3
 have hC:=Cos.made1 (x:=1) (WalkArith.wf_i64 (by decide)) (hl2.mono hle3) (hG3 _ _ aM)
 have qk:=check_s hC
 by_cases hok:ConfOK [(1,l)]
 ·rw [if_pos hok] at qk
  rw [if_pos hok,if_pos hok]
  have qe:=empty_s G3
  repeat' (first|refine Wa ?_|(refine Wc ⟨?_,?_⟩<;>first|intro h|exact ⟨⟩)|refine cJ qk ?_|refine cJ qe ?_|refine Wr ?_|(refine Wb ?_;intro b)|fail)
  refine v_retM [] (outsM_cell_tmp (sz:=6) (vs:=[.int .i64 0,.int .i64 0,.slice (some ⟨b9,0,none⟩) 1 1,.int .i64 1,.slice none 0 0,.slice none 0 0]) (e:=79) rfl rfl rfl aM rfl) (List.nil_sublist _) ⟨rfl,_,rfl,?_⟩
  exact ImV.mk' (l:=[(1,l)]) hC (emp_v G3)
 ·rw [if_neg hok] at qk
  rw [if_neg hok,if_neg hok]
  repeat' (first|refine Wa ?_|(refine Wc ⟨?_,?_⟩<;>first|intro h|exact ⟨⟩)|refine cJ qk ?_|refine Wr ?_|(refine Wb ?_;intro b)|fail)
  refine v_retM [] (outsM_cell_tmp (sz:=6) (vs:=[.int .i64 0,.int .i64 0,.slice none 0 0,.int .i64 0,.slice none 0 0,.slice none 0 0]) (e:=79) rfl rfl rfl aM rfl) (List.nil_sublist _) ⟨rfl,_,rfl,?_⟩
  exact ImV.zero G3
end Go.Proofs.YtnncjoooaknlmaaGreatDoor
/-
  node, cluster (layers 40, 41): a node that is down from its beginning on.
-/
set_option maxHeartbeats 2000000
namespace Go.Proofs.YtnncjoooaknlmaaGreatDoor
open Go.Vx Go.ChangeShapes Go.WideShapes Go.ChangeAt Go.RowKit
def dkO0 (m:Nat):Obj:=.cells [.map (some m),.slice none 0 0].toArray 178 (0,0)
theorem dnew0_s {G:GH}:Con Tryz.prog 59 #[] G [] (fun v G' μ'=>G'=G∧∃ d m,v=.pointer (some ⟨d,0,none⟩)∧μ'=[(d,dkO0 m),(m,.map #[] 0)]):=by
 (refine v_enter Tryz.func59 rfl Tryz.ntmps59 rfl ?_;intro B _)
 repeat' (first|refine Wa ?_|(refine Wc ⟨?_,?_⟩<;>first|intro h|exact ⟨⟩)|apply v_makeMap;(case hd=>rfl);intro m|(refine Wb ?_;intro b)|fail)
 refine v_ret [(b,_),(m,_)] (outsA1 rfl rfl) sS ⟨rfl,b,m,rfl,rfl⟩
abbrev imL (m:Im) (C:Option Addr) (cc:Nat) (A:Option Addr) (c:Nat) (A':Option Addr) (c':Nat):List Value:=[.int .i64 m.index,.int .i64 m.active,.slice C m.confs.length cc,.int .i64 m.st.schema,.slice A m.st.pairs.length c,.slice A' m.st.sess.length c']
abbrev lifeZ:List Value:=[.int .i64 0,.pointer none,.pointer none,.pointer none,.pointer none,.pointer none,.int .i64 0,.int .i64 0,.slice none 0 0,.map none,.slice none 0 0,.slice none 0 0,.slice none 0 0]
abbrev ndL (life:List Value) (id nodes:Int) (F:List Value) (d:Nat) (I:List Value) (why:Int):List Value:=life++([.int .i64 id,.int .i64 nodes]++F++[.pointer (some ⟨d,0,none⟩)]++I++[.int .i64 why])
abbrev ndO (l:List Value):Obj:=.cells l.toArray 133 (0,0)
def NewNd (G:GH) (id nodes:Int) (m:Im) (p:Nat) (ν:OH):Prop := ∃ d dm F I,ImV G m (.agg F.toArray)∧ImV G m (.agg I.toArray)∧F.length=6∧I.length=6∧ν=[(p,ndO (ndL lifeZ id nodes F d I 0)),(d,dkO0 dm),(dm,.map #[] 0)]
noncomputable def newE (id nodes:Int) (ml:List Int):Int:=if id<1∨nodes<id∨9<nodes then 6 else if ¬ ConfOK [(1,ml)] then 3 else if nodes<ml.getLastD 0 then 16 else 0
set_option maxHeartbeats 1000000 in
theorem nodeNew_s {G:GH}{ml:List Int}{sv:Value}(hs:Sl G 1 (IntR .i64) sv ml) (hl:ml.length≤1000) (nid nodes:Int) :
 Con Tryz.prog 25 #[.int .i64 nid,.int .i64 nodes,sv] G [] (fun r G' μ'=>(newE nid nodes ml≠0∧r=.tuple [.pointer none,.int .i64 (newE nid nodes ml)].toArray∧μ'=[])∨(newE nid nodes ml=0∧∃ p,r=.tuple [.pointer (some ⟨p,0,none⟩),.int .i64 0].toArray∧NewNd G' nid nodes (firstI ml) p μ')):=by
 have q1:=winFirst_s hs hl
 have hs0:=hs
 obtain ⟨SA,sc,rfl,hsc,hsm,hsome,hel,hsw⟩:=hs.openInt
 simp only [maxLen] at hsm
 have hE:newE nid nodes ml=if nid<1∨nodes<nid∨9<nodes then 6 else if ¬ ConfOK [(1,ml)] then 3 else if nodes<ml.getLastD 0 then 16 else 0:=rfl
 generalize newE nid nodes ml=e at *
 (refine v_enter Tryz.func25 rfl Tryz.ntmps25 rfl ?_;intro B _)
 by_cases h1:nid<1∨nodes<nid∨9<nodes
 ·rw [if_pos h1] at hE
  repeat' (first|refine Wa ?_|(refine Wc ⟨?_,?_⟩<;>first|intro h|exact ⟨⟩)|refine Wr ?_|(refine Wb ?_;intro b)|fail)
  all_goals exact v_ret [] (outsA2 rfl rfl rfl) sS (.inl ⟨by omega,by rw [hE],rfl⟩)
 ·rw [if_neg h1] at hE
  repeat' (first|refine Wa ?_|(refine Wc ⟨?_,?_⟩<;>first|intro h|exact ⟨⟩)|refine Wr ?_|(refine Wb ?_;intro b)|fail)
  refine cQ rfl q1 ?_
  rintro _ G1 _ hle1 ⟨rfl,v1,rfl,hv1⟩
  obtain ⟨C1,cc1,A1,c1,A1',c1',rfl,hC1,hp1,hss1⟩:=id hv1
  by_cases hP:ConfOK [(1,ml)]
  ·rw [if_neg (by simpa using hP)] at hE
   have h0:0<ml.length:=(hP.2 0 (by simp)).1.1
   have hA:=hsome h0
   have hlast:ml.getLastD 0=ml[ml.length-1]'(by omega):=by
    rw [List.getLastD_eq_getLast?,List.getLast?_eq_getElem?,List.getElem?_eq_getElem (by omega)]
    rfl
   have hcl:=GH.cell_le hle1 (hel (ml.length-1) (by omega))
   have hwl:=hsw (ml[ml.length-1]'(by omega)) (List.getElem_mem _)
   have e1:(((ml.length:Nat):Int)-1).toNat=ml.length-1:=by omega
   rw [hlast] at hE
   rw [if_pos hP]
   generalize ml[ml.length-1]'(by omega)=z at *
   repeat' (first|refine Ro ?_|(refine Wd 8 ?_;intro b8)|refine Wa ?_|(refine Wc ⟨?_,?_⟩<;>first|intro h|exact ⟨⟩)|apply v_read;(case hop=>(apply r_load1;rfl;exact Cell.frozen (by rw [e1];exact hcl)));(case hd=>rfl)|refine Wr ?_|(refine Wb ?_;intro b)|fail)
   ·exact v_ret [] (outsA2 rfl rfl rfl) sS (.inl ⟨by rw [hE,if_pos (by assumption)];decide,by rw [hE,if_pos (by assumption)],rfl⟩)
   ·have hm0:ImP (firstI ml):=by rw [show firstI ml=⟨0,0,[(1,ml)],emp⟩ from if_pos hP];exact ⟨⟨by simp,by simp,by simp,by simp⟩,hP,emp_ok,by simp⟩
    have hcl1:(firstI ml).confs.length≤1:=by rw [show firstI ml=⟨0,0,[(1,ml)],emp⟩ from if_pos hP];simp
    have qc:=fun G' (h:GH.le G1 G')=>winClone_s (hv1.up h) hm0.2.2.1.small (hm0.2.1.coZ (by omega))
    refine Dz _ ?_
    all_goals refine Dt [0,1] ?_
    all_goals (first|refine Tv 2 ?_ (hop:=by first|apply r_loadNo;(case hx=>rfl);(case h=>exact List.Mem.head _);(case hd|hn=>rfl)|fail)|refine Dt [2] ?_)
    all_goals (first|refine Tv 4 ?_ (hop:=by first|apply r_loadNo;(case hx=>rfl);(case h=>exact List.Mem.head _);(case hd|hn=>rfl)|fail)|refine Dt [4] ?_)
    all_goals (first|(refine DC 3 (hs:=dnew0_s) (μ1:=[]) ?_;rintro _ G2 _ hle2 ⟨hG2,d,dm,rfl,rfl⟩;subst G2)|(refine DC 3 (hs:=qc _ (GH.le_refl _)) (μ1:=[]) ?_;rintro v3 G3 _ hle3 ⟨rfl,hv3⟩;obtain ⟨C3,cc3,A3,c3,A3',c3',rfl,hC3,hp3,hss3⟩:=id hv3)|((apply d_exec 3;(case hi=>rfl);(case hr=>kernel_rfl);(case hop=>exact m_box rfl rfl);(case hd=>rfl);rintro _ _ _ ⟨nb,rfl,rfl,rfl⟩;refine ⟨(by intro e he;simp at he;simp [he]),?_⟩))|fail)
    all_goals (first|(refine DC 5 (hs:=dnew0_s) (μ1:=[]) ?_;rintro _ G2 _ hle2 ⟨hG2,d,dm,rfl,rfl⟩;subst G2)|(refine DC 5 (hs:=qc _ (GH.le_refl _)) (μ1:=[]) ?_;rintro v3 G3 _ hle3 ⟨rfl,hv3⟩;obtain ⟨C3,cc3,A3,c3,A3',c3',rfl,hC3,hp3,hss3⟩:=id hv3)|((apply d_exec 5;(case hi=>rfl);(case hr=>kernel_rfl);(case hop=>exact m_box rfl rfl);(case hd=>rfl);rintro _ _ _ ⟨nb,rfl,rfl,rfl⟩;refine ⟨(by intro e he;simp at he;simp [he]),?_⟩))|fail)
    all_goals refine Dt [6] ?_
    all_goals (first|(refine DC 7 (hs:=dnew0_s) (μ1:=[]) ?_;rintro _ G2 _ hle2 ⟨hG2,d,dm,rfl,rfl⟩;subst G2)|(refine DC 7 (hs:=qc _ (GH.le_refl _)) (μ1:=[]) ?_;rintro v3 G3 _ hle3 ⟨rfl,hv3⟩;obtain ⟨C3,cc3,A3,c3,A3',c3',rfl,hC3,hp3,hss3⟩:=id hv3)|((apply d_exec 7;(case hi=>rfl);(case hr=>kernel_rfl);(case hop=>exact m_box rfl rfl);(case hd=>rfl);rintro _ _ _ ⟨nb,rfl,rfl,rfl⟩;refine ⟨(by intro e he;simp at he;simp [he]),?_⟩))|fail)
    all_goals refine Dt [8,9] ?_
    all_goals refine Dd ?_
    all_goals repeat' (first|refine Wa ?_|(refine Wc ⟨?_,?_⟩<;>first|intro h|exact ⟨⟩)|refine Wr ?_|(refine Wb ?_;intro b)|fail)
    all_goals exact v_ret [(nb,_),(d,_),(dm,_)] (outsA2 rfl rfl rfl) sS (.inr ⟨by rw [hE,if_neg (by assumption)],nb,rfl,d,dm,imL (firstI ml) C1 cc1 A1 c1 A1' c1',imL (firstI ml) C3 cc3 A3 c3 A3' c3',hv1.up hle3,hv3,rfl,rfl,rfl⟩)
  ·rw [if_pos hP] at hE
   rw [if_neg hP]
   repeat' (first|refine Ro ?_|(refine Wd 8 ?_;intro b8)|refine Wa ?_|(refine Wc ⟨?_,?_⟩<;>first|intro h|exact ⟨⟩)|refine Wr ?_|(refine Wb ?_;intro b)|fail)
   exact v_ret [] (outsA2 rfl rfl rfl) sS (.inl ⟨by omega,by rw [hE],rfl⟩)
end Go.Proofs.YtnncjoooaknlmaaGreatDoor
/-
  cluster (layer 41): a cluster at its beginning.
-/
set_option maxHeartbeats 2000000
namespace Go.Proofs.YtnncjoooaknlmaaGreatDoor
open Go.Vx Go.ChangeShapes Go.WideShapes Go.ChangeAt Go.RowKit
abbrev ptrs (ps:List Nat):List Value:=ps.map fun p=>Value.pointer (some ⟨p,0,none⟩)
theorem ptrs_snoc (ps:List Nat) (p:Nat):ptrs (ps++[p])=ptrs ps++[.pointer (some ⟨p,0,none⟩)]:=by simp
def NdsR (Q:Nat→Nat→OH→Prop) (ps:List Nat) (ν:OH):Prop := ∃ νs:List OH,νs.length=ps.length∧ν=νs.flatten∧∀ i (h:i<ps.length) (h':i<νs.length),Q (i+1) ps[i] νs[i]
theorem NdsR.nil {Q:Nat→Nat→OH→Prop}:NdsR Q [] []:=⟨[],rfl,rfl,fun i h=>by simp at h⟩
theorem NdsR.snoc {Q:Nat→Nat→OH→Prop}{ps:List Nat}{ν:OH}(h:NdsR Q ps ν) {p:Nat}{ν':OH}(h':Q (ps.length+1) p ν'):NdsR Q (ps++[p]) (ν++ν'):=by
 obtain ⟨νs,hl,rfl,hq⟩:=h
 refine ⟨νs++[ν'],by simp [hl],by simp,fun i hi hi'=>?_⟩
 by_cases hlt:i<ps.length
 ·rw [List.getElem_append_left hlt,List.getElem_append_left (by omega)]
  exact hq i hlt (by omega)
 ·have:i=ps.length:=by simp at hi;omega
  subst this
  rw [List.getElem_append_right (Nat.le_refl _),List.getElem_append_right (by omega)]
  simp only [Nat.sub_self,List.getElem_cons_zero,hl]
  exact h'
theorem NdsR.imp {Q Q':Nat→Nat→OH→Prop}{ps:List Nat}{ν:OH}(h:NdsR Q ps ν) (hi:∀ i p ν,Q i p ν→Q' i p ν):NdsR Q' ps ν:=by
 obtain ⟨νs,hl,rfl,hq⟩:=h
 exact ⟨νs,hl,rfl,fun i h1 h2=>hi _ _ _ (hq i h1 h2)⟩
theorem NdsR.pick {Q:Nat→Nat→OH→Prop}{ps:List Nat}{ν:OH}(h:NdsR Q ps ν) {i:Nat}(hi:i<ps.length):∃ ν1 νr,Q (i+1) ps[i] ν1∧ν.Perm (ν1++νr)∧∀ ν2,Q (i+1) ps[i] ν2→∃ ν',NdsR Q ps ν'∧(ν2++νr).Perm ν':=by
 obtain ⟨νs,hl,rfl,hq⟩:=h
 have hi':i<νs.length:=by omega
 have e:νs=νs.take i++νs[i]::νs.drop (i+1):=by rw [List.getElem_cons_drop,List.take_append_drop]
 have pp:∀ (a b c:OH),(a++(b++c)).Perm (b++(a++c)):=fun a b c=>by
  rw [← List.append_assoc,← List.append_assoc]
  exact List.perm_append_comm.append_right c
 refine ⟨νs[i],(νs.take i).flatten++(νs.drop (i+1)).flatten,hq i hi hi',?_,fun ν2 h2=>⟨(νs.set i ν2).flatten,⟨νs.set i ν2,by simp [hl],rfl,fun j h1 h3=>?_⟩,?_⟩⟩
 ·conv=>lhs;rw [e]
  rw [List.flatten_append,List.flatten_cons]
  exact pp _ _ _
 ·by_cases hji:i=j
  ·subst hji;rw [List.getElem_set_self];exact h2
  ·rw [List.getElem_set_ne hji];exact hq j h1 (by simpa using h3)
 ·rw [List.set_eq_take_append_cons_drop,if_pos hi',List.flatten_append,List.flatten_cons]
  exact (pp _ _ _).symm
abbrev nilS:Value:=.slice none 0 0
abbrev clZ (sl:Value) (bg lm:Nat):List Value:=[sl,.pointer (some ⟨bg,0,none⟩),.int .i64 0,nilS,nilS,nilS,nilS,nilS,nilS,nilS,nilS,nilS,.map (some lm),.int .i64 0,.int .i64 0,.int .i64 0,.int .i64 0,.int .i64 0,.int .i64 0,.int .i64 0,.int .i64 0,.int .i64 0,.int .i64 0,.int .i64 0,.int .i64 0]
abbrev clO (l:List Value):Obj:=.cells l.toArray 68 (0,0)
abbrev bagO (v:Value):Obj:=.cells [v].toArray 115 (0,0)
theorem bagNew_s {G:GH}:Con Tryz.prog 24 #[] G [] (fun v G' μ'=>G'=G∧∃ b,v=.pointer (some ⟨b,0,none⟩)∧μ'=[(b,bagO nilS)]):=by
 (refine v_enter Tryz.func24 rfl Tryz.ntmps24 rfl ?_;intro B _)
 repeat' (first|refine Wa ?_|(refine Wc ⟨?_,?_⟩<;>first|intro h|exact ⟨⟩)|(refine Wb ?_;intro b)|fail)
 refine v_ret [(b,_)] (outsA1 rfl rfl) sS ⟨rfl,b,rfl,rfl⟩
theorem newE_next {nodes:Int}{ml:List Int}(h:newE 1 nodes ml=0) {id:Int}(h1:1≤id) (h2:id≤nodes):newE id nodes ml=0:=by
 unfold newE at h ⊢
 by_cases h3:(1:Int)<1∨nodes<1∨9<nodes
 ·rw [if_pos h3] at h;simp at h
 ·rw [if_neg h3] at h
  rw [if_neg (by omega)]
  exact h
theorem newE_nodes {nodes:Int}{ml:List Int}(h:newE 1 nodes ml=0):1≤nodes∧nodes≤9∧ConfOK [(1,ml)]:=by
 unfold newE at h
 by_cases h3:(1:Int)<1∨nodes<1∨9<nodes
 ·rw [if_pos h3] at h;simp at h
 ·rw [if_neg h3] at h
  refine ⟨by omega,by omega,?_⟩
  by_cases hP:ConfOK [(1,ml)]
  ·exact hP
  ·rw [if_pos hP] at h;simp at h
theorem NewNd.up {G G':GH}(hle:GH.le G G') {id nodes:Int}{m:Im}{p:Nat}{ν:OH}(h:NewNd G id nodes m p ν):NewNd G' id nodes m p ν:=by
 obtain ⟨d,dm,F,I,h1,h2,h3,h4,h5⟩:=h
 exact ⟨d,dm,F,I,h1.up hle,h2.up hle,h3,h4,h5⟩
abbrev NewNds (G:GH) (nodes:Int) (m:Im):List Nat→OH→Prop:=NdsR fun i p ν=>NewNd G i nodes m p ν
set_option maxHeartbeats 2000000 in
theorem clusterNew_s {G:GH}{ml:List Int}{sv:Value}(hs:Sl G 1 (IntR .i64) sv ml) (hl:ml.length≤1000) (nodes:Int) (hn:(Lit.int .i64 nodes).wf=true) :
 Con Tryz.prog 11 #[.agg [.int .i64 nodes,sv].toArray] G [] (fun r G' μ'=>(newE 1 nodes ml≠0∧r=.tuple [.pointer none,.int .i64 (newE 1 nodes ml)].toArray∧μ'=[])∨(newE 1 nodes ml=0∧∃ cb bg lm ps sl νs νn,r=.tuple [.pointer (some ⟨cb,0,none⟩),.int .i64 0].toArray∧(ps.length:Int)=nodes∧Grow 69 1 sl ps.length (ptrs ps) νs∧NewNds G' nodes (firstI ml) ps νn∧μ'=(cb,clO (clZ sl bg lm))::(bg,bagO nilS)::(lm,.map #[] 0)::(νs++νn))):=by
 have hib:=bounds_i64 hn
 obtain ⟨SA,sc,rfl,hsc,hsm,hsome,hel,hsw⟩:=id hs.openInt
 have qn:=fun G' (h:GH.le G G') (id:Int)=>nodeNew_s (hs.mono h) hl id nodes
 (refine v_enter Tryz.func11 rfl Tryz.ntmps11 rfl ?_;intro B _)
 repeat' (first|(refine Wx 1 (zs:=[.int .i64 nodes,.slice SA ml.length sc]) ?_;intro b1)|refine Wa ?_|(refine Wc ⟨?_,?_⟩<;>first|intro h|exact ⟨⟩)|refine Wr ?_|(refine Wb ?_;intro b)|fail)
 refine cQ rfl bagNew_s ?_
 rintro _ G1 _ - ⟨hG1,bg,rfl,rfl⟩
 subst G1
 repeat' (first|(refine Wx 11 (zs:=clZ nilS bg lm) ?_;intro cb)|refine Wa ?_|(refine Wc ⟨?_,?_⟩<;>first|intro h|exact ⟨⟩)|apply v_makeMap;(case hd=>rfl);intro lm|refine Wr ?_|(refine Wb ?_;intro b)|fail)
 refine v_perm (ν:=(cb,clO (clZ nilS bg lm))::(bg,bagO nilS)::(lm,.map #[] 0)::(b1,.cells [.int .i64 nodes,.slice SA ml.length sc].toArray 45 (0,0))::([]++[])) aV ?_
 refine v_loop [5,4,1] (fun us G' μ'=>GH.le G G'∧∃ (k:Nat) (ps:List Nat) (sl:Value) (νs νn:OH),(k:Int)≤max 1 (min nodes 10)∧ps.length=k∧us=[Value.int .i64 ((k:Nat)+1),.pointer (some ⟨cb,0,none⟩),.pointer (some ⟨b1,0,none⟩)]∧Grow 69 1 sl ps.length (ptrs ps) νs∧NewNds G' nodes (firstI ml) ps νn∧(0<k→newE 1 nodes ml=0)∧μ'=(cb,clO (clZ sl bg lm))::(bg,bagO nilS)::(lm,.map #[] 0)::(b1,.cells [.int .i64 nodes,.slice SA ml.length sc].toArray 45 (0,0))::(νs++νn)) (fun us=>11-(headI us).toNat) rfl ⟨GH.le_refl _,0,[],nilS,[],[],by omega,rfl,rfl,Grow.nil _ _,NdsR.nil,by omega,rfl⟩ ?_
 rintro us G' _ ⟨hle,k,ps,sl,νs,νn,hk,hps,rfl,hg,hN,hE0,rfl⟩
 subst hps
 by_cases hlt:(ps.length:Int)<max 1 (min nodes 10)
 ·repeat' (first|refine Rp ?_|refine Wa ?_|(refine Wc ⟨?_,?_⟩<;>first|intro h|exact ⟨⟩)|refine Wr ?_|(refine Wb ?_;intro b)|fail)
  refine cQ rfl (qn G' hle ((ps.length:Nat)+1)) ?_
  rintro _ G2 ν2 hle2 (⟨hE,rfl,rfl⟩|⟨hE,p,rfl,hp⟩)
  ·have hz:ps.length=0:=by
    rcases Nat.eq_zero_or_pos ps.length with h|h
    ·exact h
    ·have h0:=newE_nodes (hE0 h)
     exact absurd (newE_next (hE0 h) (by omega) (by omega)) hE
   rw [hz] at hE ⊢
   rw [show ((0:Nat):Int)+1=1 from rfl] at hE ⊢
   repeat' (first|refine Wa ?_|(refine Wc ⟨?_,?_⟩<;>first|intro h|exact ⟨⟩)|refine Wr ?_|(refine Wb ?_;intro b)|fail)
   exact v_ret [] (outsA2 rfl rfl rfl) sS (.inl ⟨hE,rfl,rfl⟩)
  ·have hE1:newE 1 nodes ml=0:=by
    rcases Nat.eq_zero_or_pos ps.length with h|h
    ·rw [h] at hE;exact hE
    ·exact hE0 h
   have hno:=newE_nodes hE1
   have hk9:ps.length≤9:=by omega
   repeat' (first|refine Rp ?_|(refine Wd 38 ?_;intro b38)|refine Wa ?_|(refine Wc ⟨?_,?_⟩<;>first|intro h|exact ⟨⟩)|apply v_append (hg:=hg) (m':=1) (us:=[.pointer (some ⟨p,0,none⟩)]) (μr:=(b38,.cells [Value.pointer (some ⟨p,0,none⟩)].toArray 69 (0,0))::(cb,clO (clZ sl bg lm))::(bg,bagO nilS)::(lm,.map #[] 0)::(b1,.cells [.int .i64 nodes,.slice SA ml.length sc].toArray 45 (0,0))::(ν2++νn)) (hp:=aV) (hsrc:=Src.own (e:=69) aM rfl);(case hzs=>rfl);(case hsz=>omega);(case hs|hx=>rfl);(case hb=>omega);(case hb'=>simp only [maxLen];omega);(case hd|h1=>rfl);intro v3 n3 hg3;obtain ⟨A3,c3,rfl,-,-⟩:=hg3.shape|refine Wr ?_|(refine Wb ?_;intro b)|fail)
   have hg4:Grow 69 1 (.slice A3 (ps.length+1) c3) (ps++[p]).length (ptrs (ps++[p])) n3:=by
    rw [ptrs_snoc,List.length_append,List.length_singleton];exact hg3
   have hN4:=(hN.imp fun i p ν h=>NewNd.up hle2 h).snoc hp
   refine v_perm (ν:=n3++((b38,.cells [Value.pointer (some ⟨p,0,none⟩)].toArray 69 (0,0))::(cb,clO (clZ (.slice A3 (ps.length+1) c3) bg lm))::(bg,bagO nilS)::(lm,.map #[] 0)::(b1,.cells [.int .i64 nodes,.slice SA ml.length sc].toArray 45 (0,0))::(ν2++νn))) (List.Perm.refl _) ?_
   refine v_dropP ((cb,clO (clZ (.slice A3 (ps.length+1) c3) bg lm))::(bg,bagO nilS)::(lm,.map #[] 0)::(b1,.cells [.int .i64 nodes,.slice SA ml.length sc].toArray 45 (0,0))::(n3++(νn++ν2))) [(b38,_)] aV ?_
   exact Va rfl ⟨GH.le_trans hle hle2,ps.length+1,ps++[p],_,n3,νn++ν2,by omega,by simp,rfl,hg4,hN4,fun _=>hE1,rfl⟩
 ·have hlen:0<ps.length:=by omega
  have hE:=hE0 hlen
  obtain ⟨h1,h9,-⟩:=newE_nodes hE
  repeat' (first|refine Rp ?_|refine Wa ?_|(refine Wc ⟨?_,?_⟩<;>first|intro h|exact ⟨⟩)|refine Wr ?_|(refine Wb ?_;intro b)|fail)
  refine v_dropP ((cb,clO (clZ sl bg lm))::(bg,bagO nilS)::(lm,.map #[] 0)::(νs++νn)) [_] aV ?_
  exact v_ret _ (outsA2 rfl rfl rfl) (List.Sublist.refl _) (.inr ⟨hE,cb,bg,lm,ps,sl,νs,νn,rfl,by omega,hg,hN,rfl⟩)
end Go.Proofs.YtnncjoooaknlmaaGreatDoor
/-
  slices.Sort and slices.Compact at numbers: the kit's contracts, laid at this program, as contracts of ours.
-/
namespace Go.Proofs.YtnncjoooaknlmaaGreatDoor
open Go.Vx Go.ChangeShapes Go.WideShapes Go.ChangeAt Go.RowKit
def laysSort_ren:Go.Shelf.Ren:=⟨fun|5=>117|7=>156|8=>157|10=>184|11=>185|12=>186|13=>187|14=>188|15=>189|16=>190|17=>191|18=>192|19=>193|20=>165|30=>217|31=>218|32=>219|33=>220|34=>221|35=>115|40=>247|n=>n,fun|0=>0|3=>3|4=>4|5=>5|9=>9|22=>43|23=>43|25=>3|32=>205|35=>281|36=>282|41=>166|44=>95|46=>151|53=>312|57=>164|63=>340|64=>110|n=>n,fun n=>n⟩
theorem laysSort:SlLaysM.n5 Tryz.prog laysSort_ren where
 mixed:=by kernel_rfl
 f5:=⟨"slices.Sort[[]int,int]",by decide,Tryz.func117.trans (congrArg some (by kernel_rfl))⟩
 f7:=⟨"slices.pdqsortOrdered[int]",by decide,Tryz.func156.trans (congrArg some (by kernel_rfl))⟩
 f8:=Tryz.func157.trans (congrArg some (by kernel_rfl))
 f10:=⟨"slices.insertionSortOrdered[int]",by decide,Tryz.func184.trans (congrArg some (by kernel_rfl))⟩
 f11:=⟨"slices.heapSortOrdered[int]",by decide,Tryz.func185.trans (congrArg some (by kernel_rfl))⟩
 f12:=⟨"slices.breakPatternsOrdered[int]",by decide,Tryz.func186.trans (congrArg some (by kernel_rfl))⟩
 f13:=⟨"slices.choosePivotOrdered[int]",by decide,Tryz.func187.trans (congrArg some (by kernel_rfl))⟩
 f14:=⟨"slices.reverseRangeOrdered[int]",by decide,Tryz.func188.trans (congrArg some (by kernel_rfl))⟩
 f15:=⟨"slices.partialInsertionSortOrdered[int]",by decide,Tryz.func189.trans (congrArg some (by kernel_rfl))⟩
 f16:=⟨"cmp.Less[int]",by decide,Tryz.func190.trans (congrArg some (by kernel_rfl))⟩
 f17:=⟨"slices.partitionEqualOrdered[int]",by decide,Tryz.func191.trans (congrArg some (by kernel_rfl))⟩
 f18:=⟨"slices.partitionOrdered[int]",by decide,Tryz.func192.trans (congrArg some (by kernel_rfl))⟩
 f19:=Tryz.func193.trans (congrArg some (by kernel_rfl))
 f20:=Tryz.func165.trans (congrArg some (by kernel_rfl))
 f30:=⟨"slices.siftDownOrdered[int]",by decide,Tryz.func217.trans (congrArg some (by kernel_rfl))⟩
 f31:=Tryz.func218.trans (congrArg some (by kernel_rfl))
 f32:=Tryz.func219.trans (congrArg some (by kernel_rfl))
 f33:=⟨"slices.medianAdjacentOrdered[int]",by decide,Tryz.func220.trans (congrArg some (by kernel_rfl))⟩
 f34:=⟨"slices.medianOrdered[int]",by decide,Tryz.func221.trans (congrArg some (by kernel_rfl))⟩
 f35:=⟨"cmp.isNaN[int]",by decide,Tryz.func115.trans (congrArg some (by kernel_rfl))⟩
 f40:=⟨"slices.order2Ordered[int]",by decide,Tryz.func247.trans (congrArg some (by kernel_rfl))⟩
 t0:=Tryz.underlying0
 a0:=Tryz.isAgg0
 z0:=Tryz.sizeOf0
 v0:=Tryz.zeroValue0
 t3:=Tryz.underlying3
 a3:=Tryz.isAgg3
 z3:=Tryz.sizeOf3
 v3:=Tryz.zeroValue3
 t4:=Tryz.underlying4
 a4:=Tryz.isAgg4
 z4:=Tryz.sizeOf4
 v4:=Tryz.zeroValue4
 t5:=Tryz.underlying5
 a5:=Tryz.isAgg5
 z5:=Tryz.sizeOf5
 v5:=Tryz.zeroValue5
 t9:=Tryz.underlying9
 a9:=Tryz.isAgg9
 z9:=Tryz.sizeOf9
 v9:=Tryz.zeroValue9
 t22:=Tryz.underlying43
 a22:=Tryz.isAgg43
 z22:=Tryz.sizeOf43
 v22:=Tryz.zeroValue43
 t23:=Tryz.underlying43
 a23:=Tryz.isAgg43
 z23:=Tryz.sizeOf43
 v23:=Tryz.zeroValue43
 t25:=Tryz.underlying3
 a25:=Tryz.isAgg3
 z25:=Tryz.sizeOf3
 v25:=Tryz.zeroValue3
 t32:=Tryz.underlying205
 a32:=Tryz.isAgg205
 z32:=Tryz.sizeOf205
 v32:=Tryz.zeroValue205
 t35:=Tryz.underlying281
 a35:=Tryz.isAgg281
 z35:=Tryz.sizeOf281
 v35:=Tryz.zeroValue281
 t36:=Tryz.underlying282
 a36:=Tryz.isAgg282
 z36:=Tryz.sizeOf282
 v36:=Tryz.zeroValue282
 t41:=Tryz.underlying166
 a41:=Tryz.isAgg166
 z41:=Tryz.sizeOf166
 v41:=Tryz.zeroValue166
 t44:=Tryz.underlying95
 a44:=Tryz.isAgg95
 z44:=Tryz.sizeOf95
 v44:=Tryz.zeroValue95
 t46:=Tryz.underlying151
 a46:=Tryz.isAgg151
 z46:=Tryz.sizeOf151
 v46:=Tryz.zeroValue151
 t53:=Tryz.underlying312
 a53:=Tryz.isAgg312
 z53:=Tryz.sizeOf312
 v53:=Tryz.zeroValue312
 t57:=Tryz.underlying164
 a57:=Tryz.isAgg164
 z57:=Tryz.sizeOf164
 v57:=Tryz.zeroValue164
 t63:=Tryz.underlying340
 a63:=Tryz.isAgg340
 z63:=Tryz.sizeOf340
 v63:=Tryz.zeroValue340
 t64:=Tryz.underlying110
 a64:=Tryz.isAgg110
 z64:=Tryz.sizeOf110
 v64:=Tryz.zeroValue110
attribute [local semireducible] Con
theorem Con.ofCallsS {P:Program}{f:FuncId}{args:Array Value}{G:GH}{μ:OH}{Φ:Value→GH→OH→Prop}(h:∀ w,Mem G μ w→Calls P f args w fun e w'=>∃ v,e=.returned v∧∃ G' μ',Step G μ w G' μ' w'∧Φ v G' μ'):Con P f args G μ Φ:=by
 intro w hw
 exact (h w hw).mono fun e w' hq=>by
  obtain ⟨v,rfl,hv⟩:=hq
  exact ⟨v,rfl,hv⟩
section
variable {G:GH}{μ μ':OH}{w:World}{b:Nat}{e:TypeId}
theorem Step.mapS {vs vs':List Value}{f:Array Value→Array Value}(hw:Mem G μ w) (hb:Has μ b vs e) (hf:f vs.toArray=vs'.toArray) (hu:Upd b (.cells vs'.toArray e (0,0)) μ μ'):Step G μ w G μ' (Go.Sort.mapBlock w b f):=by
 have hg:=hw.own _ _ hb
 refine Step.upd hw hu rfl rfl rfl (by simp [Go.Sort.mapBlock]) ?_ (fun c hc=>?_)
 ·simp only [Go.Sort.mapBlock,Array.getElem?_modify,if_true,hg,Option.map_some,Go.Sort.onCells,hf]
 ·simp only [Go.Sort.mapBlock,Array.getElem?_modify]
  rw [if_neg (fun h=>hc h.symm)]
theorem Step.grow (h:Mem G μ w) (os:Array Obj):Step G μ w G μ (Go.Sort.grow w os):=by
 have hold:∀ c,c<w.heap.size→(Go.Sort.grow w os).heap[c]? = w.heap[c]? := fun c hc=>by
  show (w.heap++os)[c]? = _
  rw [Array.getElem?_append_left hc]
 refine ⟨⟨fun c o hc=>?_,fun c o hc=>?_,h.nodup,h.apart⟩,GH.le_refl _,rfl,rfl,rfl,?_,fun c hc _=>hold c hc,fun c o hc=>.inl ⟨o,hc⟩,fun c o hc=>.inl ⟨o,hc⟩⟩
 ·rw [hold c (lt_of_heap (h.g c o hc))];exact h.g c o hc
 ·rw [hold c (lt_of_heap (h.own c o hc))];exact h.own c o hc
 ·show w.heap.size≤(w.heap++os).size
  simp
end
theorem holds_own {G:GH}{μ:OH}{w:World}{b:Nat}{e:TypeId}{zs:List Int}{spare:List Value}(hw:Mem G μ w) (hb:Has μ b (zs.map (Value.int .i64 ·)++spare) e):Go.Sort.Holds (Value.int .i64) w b 0 zs.toArray:=by
 intro j hj
 have hj':j<zs.length:=by simpa using hj
 refine ⟨?_,?_⟩
 ·rw [Nat.zero_add]
  refine Cell.own hb ?_ w hw.sees
  rw [List.getElem?_append_left (by simpa using hj'),List.getElem?_map,List.getElem?_eq_getElem hj']
  simp [hj']
 ·have:=hw.own _ _ hb
  simp [World.frozen?,this]
theorem putCells_own {zs ys:List Int}{spare:List Value}(h:ys.length=zs.length):Go.Sort.putCells (Value.int .i64) 0 ys.toArray (zs.map (Value.int .i64 ·)++spare).toArray=(ys.map (Value.int .i64 ·)++spare).toArray:=by
 apply Array.ext_getElem?
 intro k
 simp only [Go.Sort.putCells,Array.getElem?_mapIdx,List.getElem?_toArray,List.size_toArray,Nat.zero_le,true_and,Nat.zero_add,Nat.sub_zero]
 by_cases hk:k<ys.length
 ·rw [List.getElem?_append_left (by simp;omega),List.getElem?_append_left (by simpa using hk)]
  simp [hk,h ▸ hk]
 ·rw [List.getElem?_append_right (by simp;omega),List.getElem?_append_right (by simp;omega)]
  have hk2:¬ k<zs.length:=by omega
  simp only [List.length_map,h]
  cases spare[k-zs.length]? with
  | none=>rfl
  | some v=>simp only [Option.map_some,hk2,if_false]
def sortL (l:List Int):List Int:=l.mergeSort fun x y=>decide (x≤y)
theorem sortL_perm (l:List Int):(sortL l).Perm l:=List.mergeSort_perm _ _
theorem sort_s {G:GH}{zs:List Int}{b cap:Nat}{e:TypeId}{spare:List Value}(hsz:zs.length<4611686018427387904) :
 Con Tryz.prog 117 #[.slice (some ⟨b,0,none⟩) zs.length cap] G [(b,.cells (zs.map (Value.int .i64 ·)++spare).toArray e (0,0))]
  (fun r G' μ'=>r=.tuple #[]∧G'=G∧μ'=[(b,.cells ((sortL zs).map (Value.int .i64 ·)++spare).toArray e (0,0))]):=by
 refine Con.ofCallsS fun w hw=>?_
 have hb:Has [(b,Obj.cells (zs.map (Value.int .i64 ·)++spare).toArray e (0,0))] b (zs.map (Value.int .i64 ·)++spare) e:=List.mem_cons_self
 refine (AnyM.slices_Sort_int laysSort b 0 cap zs w (holds_own hw hb) (lt_of_heap (hw.own _ _ hb)) hsz).mono ?_
 rintro _ w' ⟨rfl,n,os,rfl⟩
 have s1:=Step.drew hw n
 have s2:=Step.mapS (f:=Go.Sort.putCells (Value.int .i64) 0 (sortL zs).toArray) s1.mem hb (putCells_own (sortL_perm zs).length_eq) (.here _ _)
 exact ⟨_,rfl,G,_,(s1.trans s2).trans (Step.grow s2.mem os),rfl,rfl,rfl⟩
theorem sort0_s {G:GH}{p:Option Addr}{cap:Nat}:Con Tryz.prog 117 #[.slice p 0 cap] G [] (Just (.tuple #[]) G):=by
 refine Con.ofCallsS fun w hw=>?_
 refine (AnyM.slices_Sort_int_none laysSort p cap w).mono ?_
 rintro _ w' ⟨rfl,rfl⟩
 exact ⟨_,rfl,G,[],Step.refl hw,rfl,rfl,rfl⟩
end Go.Proofs.YtnncjoooaknlmaaGreatDoor
/-
  Majorities, in plain Lean: distinct members, counted in two ways; two majorities have a member in common.
-/
namespace Go.Proofs.YtnncjoooaknlmaaGreatDoor
open Go.Vx Go.ChangeShapes Go.WideShapes Go.ChangeAt Go.RowKit
theorem perm_of_mem {l l':List Int}(h:l.Nodup) (h':l'.Nodup) (hm:∀ x,x∈l↔x∈l'):l.Perm l':=by
 rw [List.perm_iff_count]
 intro a
 rw [h.count,h'.count]
 simp only [hm a]
def once (l:List Int):List Int:=Lib.compact (sortL l)
theorem values_s {G:GH}{A:Option Addr}{n c:Nat}:Con Tryz.prog 173 #[.slice A n c] G []
 (fun r G' μ'=>∃ b,r=.func (.func 201) #[] #[.pointer (some ⟨b,0,none⟩)]∧G'=G∧μ'=[(b,.cells [.slice A n c].toArray 43 (0,0))]):=by
 (refine v_enter Tryz.func173 rfl Tryz.ntmps173 rfl ?_;intro B _)
 repeat' (first|refine Wa ?_|(refine Wc ⟨?_,?_⟩<;>first|intro h|exact ⟨⟩)|(refine Wb ?_;intro b)|fail)
 refine v_ret [(b,_)] (outsA1 rfl rfl) sS ?_
 exact ⟨b,rfl,rfl,rfl⟩
theorem vals_seq {G:GH}{l:List Int}{A:Option Addr}{n c b:Nat}(hs:Sl G 1 (IntR .i64) (.slice A n c) l) (hl:l.length≤1048576):SeqCon Tryz.prog 201 [.pointer (some ⟨b,0,none⟩)] keyI (fun xs=>xs=l) l.length G [(b,.cells [.slice A n c].toArray 43 (0,0))]:=by
 intro lp J G1 ν hle hJ0 hY
 obtain ⟨A',c',e0,hlc,hcm,hsome,hel,-⟩:=(hs.mono hle).openInt
 cases e0
 simp only [maxLen] at hcm
 (refine v_enter Tryz.func201 rfl Tryz.ntmps201 rfl ?_;intro B _)
 repeat' (first|refine Wa ?_|(refine Wc ⟨?_,?_⟩<;>first|intro h|exact ⟨⟩)|refine Wr ?_|fail)
 refine v_loopI (ι:=Nat) [7,5,6,0] (fun k vs G' μ'=>GH.le G1 G'∧∃ ν',k≤l.length∧vs=[Value.int .i64 (k:Nat),.slice A l.length c,.int .i64 (l.length:Nat),.func (.yield lp) #[] #[]]∧J (l.take k) G' ν'∧μ'=(b,.cells [.slice A l.length c].toArray 43 (0,0))::ν') (fun k=>l.length-k) rfl 0 ⟨GH.le_refl _,ν,by omega,rfl,hJ0,rfl⟩ ?_
 rintro k vs G' _ ⟨hle',ν',hk,rfl,hJ,rfl⟩
 by_cases hlt:k<l.length
 ·have e1:((k:Nat):Int).toNat=k:=by omega
  have hc:=GH.cell_le hle' (hel k hlt)
  have hA:=hsome (by omega)
  have hy:=hY (l.take k) l[k] G' ν' hle' hJ (by rw [List.length_take];omega)
  rw [← List.take_succ_eq_append_getElem hlt] at hy
  generalize l[k]=x at *
  repeat' (first|refine Wa ?_|(refine Wc ⟨?_,?_⟩<;>first|intro h|exact ⟨⟩)|apply v_read;(case hop=>(apply r_load1;rfl;exact Cell.frozen hc));(case hd=>rfl)|apply v_yield (hs:=hy);(case hx|ha=>rfl);(case hp=>exact (List.perm_append_comm (l₁:=[(b,Obj.cells [Value.slice A l.length c].toArray 43 (0,0))]) (l₂:=ν')));(case hd=>rfl);rintro _ G2 ν2 hle2 ⟨rfl,hJ2⟩|refine Wr ?_|fail)
  refine v_perm List.perm_append_comm ?_
  refine v_againI (k+1) rfl ⟨GH.le_trans hle' hle2,ν2,by omega,rfl,hJ2,rfl⟩ (by omega)
 ·repeat' (first|refine Wa ?_|(refine Wc ⟨?_,?_⟩<;>first|intro h|exact ⟨⟩)|refine Wr ?_|fail)
  refine v_end _ (outsA0 rfl) (List.Sublist.refl _) ?_
  rw [List.take_of_length_le (by omega)] at hJ
  exact ⟨l,ν',rfl,hJ,rfl⟩
theorem appendSeq_s {G:GH}{gf:FuncId} [Callable Tryz.prog gf] {lb:List Value}{S:List Int→Prop}{N:Nat}{μ1:OH}(hN:N≤1048576) (hseq:SeqCon Tryz.prog gf lb keyI S N G μ1) :
 Con Tryz.prog 155 #[.slice none 0 0,.func (.func gf) #[] lb.toArray] G μ1 (fun r G' μ'=>G'=G∧∃ xs ν,S xs∧Grow 3 1 r xs.length (xs.map (Value.int .i64 ·)) ν∧μ'=ν++μ1):=by
 (refine v_enter Tryz.func155 rfl Tryz.ntmps155 rfl ?_;intro B _)
 repeat' (first|refine Wa ?_|(refine Wc ⟨?_,?_⟩<;>first|intro h|exact ⟨⟩)|refine Wr ?_|(refine Wb ?_;intro b)|fail)
 refine v_rangeFunc (enc:=keyI) (N:=N) (S:=S) (μ1:=μ1) (μ2:=[(b,.cells [.slice none 0 0].toArray 43 (0,0))]) (σ':=fun x=>_) (fun pre G' ν=>G'=G∧∃ v ν1,Grow 3 1 v pre.length (pre.map (Value.int .i64 ·)) ν1∧ν=ν1++[(b,.cells [v].toArray 43 (0,0))]) rfl hseq ?_ rfl (fun x=>Assigns.region (.cons (p_assign rfl) rfl (.nil _))) rfl ⟨rfl,_,[],Grow.nil _ _,rfl⟩ ?_ ?_
 ·exact (List.perm_append_comm (l₁:=[(b,Obj.cells [Value.slice none 0 0].toArray 43 (0,0))]) (l₂:=μ1))
 ·rintro l B' _ pre x G2 _ hle ⟨rfl,v,ν1,hg,rfl⟩ hlen
  have hpl:pre.length≤1048576:=by omega
  repeat' (first|refine Wa ?_|(refine Wc ⟨?_,?_⟩<;>first|intro h|exact ⟨⟩)|apply v_append (hg:=hg) (m':=1) (us:=[keyI x]) (hp:=PickA.perm (by repeat (first|exact PickA.last|exact PickA.here _|exact PickA.one _|apply PickA.cons|apply PickA.app))) (hsrc:=Src.own (e:=3) aM rfl);(case hzs=>rfl);(case hsz=>omega);(case hs|hx=>rfl);(case hb=>omega);(case hb'=>simp only [maxLen];omega);(case hd|h1=>rfl);intro v3 n3 hg3;obtain ⟨A3,c3,rfl,-,-⟩:=hg3.shape|refine Wr ?_|(refine Wb ?_;intro b)|fail)
  refine v_endR (n3++[_]) (List.Sublist.append_left sS _) ⟨rfl,rfl,_,n3,by simpa using hg3,rfl⟩
 ·rintro B' D _ xs G2 _ hle hS ⟨rfl,v,ν1,hg,rfl⟩
  repeat' (first|refine Wa ?_|(refine Wc ⟨?_,?_⟩<;>first|intro h|exact ⟨⟩)|refine Wr ?_|(refine Wb ?_;intro b)|fail)
  refine v_retD (Ds:=[D]) (μ1:=(ν1++μ1)++[(b,.cells [v].toArray 43 (0,0))]) (ν1++μ1) (fun ds a ha w _=>outs1 rfl rfl ds a ha) ?_ (List.sublist_append_left _ _) ⟨rfl,xs,ν1,hS,hg,rfl⟩
  exact (show List.Perm (μ1++(ν1++[(b,Obj.cells [v].toArray 43 (0,0))])) (ν1++μ1++[(b,Obj.cells [v].toArray 43 (0,0))]) from aV).cons _
theorem collect_s {G:GH}{gf:FuncId} [Callable Tryz.prog gf] {lb:List Value}{S:List Int→Prop}{N:Nat}{μ1:OH}(hN:N≤1048576) (hseq:SeqCon Tryz.prog gf lb keyI S N G μ1) :
 Con Tryz.prog 116 #[.func (.func gf) #[] lb.toArray] G μ1 (fun r G' μ'=>G'=G∧∃ xs ν,S xs∧Grow 3 1 r xs.length (xs.map (Value.int .i64 ·)) ν∧μ'=ν++μ1):=by
 have q:=appendSeq_s hN hseq
 (refine v_enter Tryz.func116 rfl Tryz.ntmps116 rfl ?_;intro B _)
 repeat' (first|refine Wa ?_|(refine Wc ⟨?_,?_⟩<;>first|intro h|exact ⟨⟩)|fail)
 refine v_call (μ1:=μ1) (μ2:=[]) rfl q (by simp) rfl ?_
 rintro r _ _ - ⟨rfl,xs,ν,hS,hg,rfl⟩
 repeat' (first|refine Wa ?_|(refine Wc ⟨?_,?_⟩<;>first|intro h|exact ⟨⟩)|fail)
 refine v_ret (ν++μ1) (outsA1 rfl rfl) (by simp) ⟨rfl,xs,ν,hS,hg,rfl⟩
theorem Grow.cases {e:TypeId}{v:Value}{m:Nat}{xs:List Value}{ν:OH}(h:Grow e 1 v m xs ν):(v=.slice none 0 0∧m=0∧xs=[]∧ν=[])∨∃ b cap spare,v=.slice (some ⟨b,0,none⟩) m cap∧m≤cap∧cap≤maxLen∧ν=[(b,.cells (xs++spare).toArray e (0,0))]∧xs.length=m∧(xs++spare).length=cap:=by
 obtain ⟨hx,⟨rfl,rfl,rfl⟩|⟨b,cap,spare,rfl,rfl,h1,h2,h3⟩⟩:=h
 ·left
  exact ⟨rfl,rfl,by simpa using hx,rfl⟩
 ·right
  exact ⟨b,cap,spare,rfl,h1,h2,rfl,by simpa using hx,by simpa using h3⟩
theorem grow_of {e:TypeId}{b m cap:Nat}{xs spare:List Value}(h1:xs.length=m) (h2:m≤cap) (h3:cap≤maxLen) (h4:(xs++spare).length=cap):Grow e 1 (.slice (some ⟨b,0,none⟩) m cap) m xs [(b,.cells (xs++spare).toArray e (0,0))] :=
 ⟨by omega,.inr ⟨b,cap,spare,rfl,rfl,h2,h3,by omega⟩⟩
theorem sorted_s {G:GH}{gf:FuncId} [Callable Tryz.prog gf] {lb:List Value}{S:List Int→Prop}{N:Nat}{μ1:OH}(hN:N≤1048576) (hS:∀ xs,S xs→xs.length≤1048576) (hseq:SeqCon Tryz.prog gf lb keyI S N G μ1) :
 Con Tryz.prog 75 #[.func (.func gf) #[] lb.toArray] G μ1 (fun r G' μ'=>G'=G∧∃ xs ν,S xs∧Grow 3 1 r xs.length ((sortL xs).map (Value.int .i64 ·)) ν∧μ'=ν++μ1):=by
 have q:=collect_s hN hseq
 (refine v_enter Tryz.func75 rfl Tryz.ntmps75 rfl ?_;intro B _)
 repeat' (first|refine Wa ?_|(refine Wc ⟨?_,?_⟩<;>first|intro h|exact ⟨⟩)|fail)
 refine v_call (μ1:=μ1) (μ2:=[]) rfl q (by simp) rfl ?_
 rintro r G1 _ - ⟨rfl,xs,ν,hSx,hg,rfl⟩
 have hlen:=hS _ hSx
 obtain ⟨rfl,h0,h1,rfl⟩|⟨b,cap,spare,rfl,hc,hm,rfl,hxl,hcl⟩:=Grow.cases hg
 ·have hx0:xs=[]:=List.eq_nil_of_length_eq_zero h0
  subst hx0
  repeat' (first|refine Wa ?_|(refine Wc ⟨?_,?_⟩<;>first|intro h|exact ⟨⟩)|apply v_call (hs:=sort0_s);(case ha=>rfl);(case hp=>first|exact (Pick.perm (by repeat (first|exact Pick.here _|apply Pick.there|apply Pick.app)))|exact List.Perm.refl _);(case hd=>rfl);rintro _ _ _ _ ⟨rfl,rfl,rfl⟩|fail)
  refine v_ret μ1 (outsA1 rfl rfl) (by simp) ⟨rfl,[],[],hSx,by simpa [sortL] using Grow.nil _ _,rfl⟩
 ·have q2:=sort_s (G:=G1) (zs:=xs) (b:=b) (cap:=cap) (e:=3) (spare:=spare) (by omega)
  repeat' (first|refine Wa ?_|(refine Wc ⟨?_,?_⟩<;>first|intro h|exact ⟨⟩)|fail)
  refine v_call (μ1:=[(b,_)]) (μ2:=μ1) rfl q2 (by simp) rfl ?_
  rintro _ G2 _ hle2 ⟨rfl,rfl,rfl⟩
  repeat' (first|refine Wa ?_|(refine Wc ⟨?_,?_⟩<;>first|intro h|exact ⟨⟩)|fail)
  refine v_ret ([(b,_)]++μ1) (outsA1 rfl rfl) (List.Sublist.refl _) ⟨rfl,xs,_,hSx,grow_of (by simp [(sortL_perm xs).length_eq]) hc hm (by simpa [(sortL_perm xs).length_eq] using hcl),rfl⟩
end Go.Proofs.YtnncjoooaknlmaaGreatDoor
/-
  cluster (layer 41): what a cluster is asked, of a cluster at its beginning.
-/
set_option maxHeartbeats 2000000
namespace Go.Proofs.YtnncjoooaknlmaaGreatDoor
open Go.Vx Go.ChangeShapes Go.WideShapes Go.ChangeAt Go.RowKit
theorem Con.frameK {P:Program}{f:FuncId}{args:Array Value}{G:GH}{μ μ1 μ2:OH}{Ψ:Value→GH→Prop}(h:Con P f args G μ1 (fun v G' μ'=>μ'=μ1∧Ψ v G')) (hp:μ.Perm (μ1++μ2)):Con P f args G μ (fun v G' μ'=>μ'=μ∧Ψ v G'):=by
 unfold Con at h ⊢
 intro w hw
 have hw':=hw.perm hp
 refine Calls.mono (h w hw'.split.1) ?_
 rintro e w' ⟨v,rfl,G',μ1',hst,rfl,hΨ⟩
 exact ⟨v,rfl,G',μ,((hst.frame hw').permL hp.symm).perm hp.symm,rfl,hΨ⟩
theorem Con.keepsK {P:Program}{f:FuncId}{args:Array Value}{G:GH}{μ:OH}{r:Value}(h:Con P f args G μ (fun v G' μ'=>μ'=μ∧v=r)):Con P f args G μ (Keeps r G μ):=Con.keeps (h.mono fun v G' μ' h=>⟨h.2,h.1⟩)
def PtrR (p:Nat) (cs:List Value):Prop:=cs=[.pointer (some ⟨p,0,none⟩)]
abbrev PtS (G:GH) (v:Value) (ps:List Nat):Prop:=Sl G 1 PtrR v ps
theorem clNodes_s {G:GH}{cb:Nat}{A:Option Addr}{c:Nat}{L:List Value}{ps:List Nat}:Con Tryz.prog 26 #[.pointer (some ⟨cb,0,none⟩)] G [(cb,clO (.slice A ps.length c::L))] (Keeps (.int .i64 (ps.length:Nat)) G [(cb,clO (.slice A ps.length c::L))]):=by
 (refine v_enter Tryz.func26 rfl Tryz.ntmps26 rfl ?_;intro B _)
 repeat' (first|refine Rp ?_|refine Wa ?_|(refine Wc ⟨?_,?_⟩<;>first|intro h|exact ⟨⟩)|refine Wr ?_|fail)
 exact v_ret _ (outsA1 rfl rfl) (List.Sublist.refl _) ⟨rfl,rfl,rfl⟩
theorem clNode_s {G:GH}{cb:Nat}{A:Option Addr}{c:Nat}{L:List Value}{ps:List Nat}(hp:PtS G (.slice A ps.length c) ps) {i:Nat}(hi:i<ps.length) (h9:ps.length≤9):Con Tryz.prog 62 #[.pointer (some ⟨cb,0,none⟩),.int .i64 ((i:Nat)+1)] G [(cb,clO (.slice A ps.length c::L))] (Keeps (.pointer (some ⟨ps[i],0,none⟩)) G [(cb,clO (.slice A ps.length c::L))]):=by
 obtain ⟨A0,c0,e0,hlc,hcm,hsome,hcp⟩:=hp.open
 cases e0
 have hA:=hsome (by omega)
 obtain ⟨cs,hcs,rfl,hck⟩:=hcp i _ (List.getElem?_eq_getElem hi)
 have hc:=hck.cell (j:=0) rfl
 have e1:(((i:Nat):Int)+1-1).toNat=i:=by omega
 generalize ps[i]=p at *
 (refine v_enter Tryz.func62 rfl Tryz.ntmps62 rfl ?_;intro B _)
 repeat' (first|refine Rp ?_|refine Wa ?_|(refine Wc ⟨?_,?_⟩<;>first|intro h|exact ⟨⟩)|apply v_read;(case hop=>(apply r_load1;rfl;exact Cell.frozen (by rw [e1];exact hc)));(case hd=>rfl)|refine Wr ?_|fail)
 exact v_ret _ (outsA1 rfl rfl) (List.Sublist.refl _) ⟨rfl,rfl,rfl⟩
theorem ndImage_s {G:GH}{nid nodes:Int}{m:Im}{p:Nat}{ν:OH}(h:NewNd G nid nodes m p ν) (hz:StZ m.st) (hc:CoZ m.confs):Con Tryz.prog 63 #[.pointer (some ⟨p,0,none⟩)] G ν (fun r G' μ'=>μ'=ν∧ImV G' m r):=by
 obtain ⟨d,dm,F,I,hF,hI,hf,hi,rfl⟩:=h
 have q:=winClone_s hI hz hc
 match F,I,hf,hi with
 | [f0,f1,f2,f3,f4,f5],[i0,i1,i2,i3,i4,i5],_,_ =>
 (refine v_enter Tryz.func63 rfl Tryz.ntmps63 rfl ?_;intro B _)
 repeat' (first|refine Ro ?_|refine Wa ?_|(refine Wc ⟨?_,?_⟩<;>first|intro h|exact ⟨⟩)|refine Wr ?_|(refine Wb ?_;intro b)|fail)
 refine cQ rfl q ?_
 rintro r G1 _ - ⟨rfl,hr⟩
 obtain ⟨C1,cc1,A1,c1,A1',c1',rfl,hC1,hp1,hss1⟩:=id hr
 repeat' (first|refine Ro ?_|refine Wa ?_|(refine Wc ⟨?_,?_⟩<;>first|intro h|exact ⟨⟩)|refine Wr ?_|(refine Wb ?_;intro b)|fail)
 exact v_retM [(p,_),(d,_),(dm,_)] (outsM_cell (sz:=6) (vs:=imL m C1 cc1 A1 c1 A1' c1') (e:=79) rfl rfl aM rfl) sS ⟨rfl,hr⟩
theorem ndUp_s {G:GH}{nid nodes:Int}{m:Im}{p:Nat}{ν:OH}(h:NewNd G nid nodes m p ν):Con Tryz.prog 65 #[.pointer (some ⟨p,0,none⟩)] G ν (Keeps (.bool false) G ν):=by
 obtain ⟨d,dm,F,I,hF,hI,hf,hi,rfl⟩:=h
 (refine v_enter Tryz.func65 rfl Tryz.ntmps65 rfl ?_;intro B _)
 repeat' (first|refine Rp ?_|refine Wa ?_|(refine Wc ⟨?_,?_⟩<;>first|intro h|exact ⟨⟩)|refine Wr ?_|fail)
 exact v_ret _ (outsA1 rfl rfl) (List.Sublist.refl _) ⟨rfl,rfl,rfl⟩
theorem ndVersion_s {G:GH}{nid nodes:Int}{m:Im}{p:Nat}{ν:OH}(h:NewNd G nid nodes m p ν):Con Tryz.prog 66 #[.pointer (some ⟨p,0,none⟩)] G ν (Keeps (.int .i64 0) G ν):=by
 have q:=ndUp_s h
 (refine v_enter Tryz.func66 rfl Tryz.ntmps66 rfl ?_;intro B _)
 repeat' (first|refine Wa ?_|(refine Wc ⟨?_,?_⟩<;>first|intro h|exact ⟨⟩)|refine cK q ?_|refine Wr ?_|fail)
 exact v_ret _ (outsA1 rfl rfl) (List.Sublist.refl _) ⟨rfl,rfl,rfl⟩
theorem clImage_s {G:GH}{cb:Nat}{A:Option Addr}{c:Nat}{L:List Value}{ps:List Nat}{nodes:Int}{m:Im}{νn:OH}(hp:PtS G (.slice A ps.length c) ps) (hN:NewNds G nodes m ps νn) (hz:StZ m.st) (hc:CoZ m.confs) {i:Nat}(hi:i<ps.length) (h9:ps.length≤9):Con Tryz.prog 28 #[.pointer (some ⟨cb,0,none⟩),.int .i64 ((i:Nat)+1)] G ((cb,clO (.slice A ps.length c::L))::νn) (fun r G' μ'=>μ'=(cb,clO (.slice A ps.length c::L))::νn∧ImV G' m r):=by
 have q1:=clNode_s (cb:=cb) (L:=L) hp hi h9
 obtain ⟨ν1,νr,hQ,hperm,-⟩:=hN.pick hi
 have q2:=Con.frameK (ndImage_s hQ hz hc) hperm
 (refine v_enter Tryz.func28 rfl Tryz.ntmps28 rfl ?_;intro B _)
 repeat' (first|(refine Wd 4 ?_;intro b4)|refine Wa ?_|(refine Wc ⟨?_,?_⟩<;>first|intro h|exact ⟨⟩)|apply v_callK (hs:=q1) (μ2:=(b4,_)::νn);(case ha=>rfl);(case hp=>exact List.Perm.swap _ _ _);(case hd=>rfl)|refine Wr ?_|(refine Wb ?_;intro b)|fail)
 refine v_call (μ1:=νn) (μ2:=[(b4,_),(cb,clO (.slice A ps.length c::L))]) rfl q2 (List.perm_append_comm (l₁:=[(b4,_),(cb,clO (.slice A ps.length c::L))])) rfl ?_
 rintro r G1 _ - ⟨rfl,hr⟩
 obtain ⟨C1,cc1,A1,c1,A1',c1',rfl,hC1,hp1,hss1⟩:=id hr
 refine v_perm List.perm_append_comm ?_
 repeat' (first|refine Ro ?_|refine Wa ?_|(refine Wc ⟨?_,?_⟩<;>first|intro h|exact ⟨⟩)|refine Wr ?_|(refine Wb ?_;intro b)|fail)
 exact v_retM _ (outsM_cell (sz:=6) (vs:=imL m C1 cc1 A1 c1 A1' c1') (e:=79) rfl rfl aM rfl) (List.sublist_cons_self _ _) ⟨rfl,hr⟩
theorem clVersion_s {G:GH}{cb:Nat}{A:Option Addr}{c:Nat}{L:List Value}{ps:List Nat}{nodes:Int}{m:Im}{νn:OH}(hp:PtS G (.slice A ps.length c) ps) (hN:NewNds G nodes m ps νn) {i:Nat}(hi:i<ps.length) (h9:ps.length≤9):Con Tryz.prog 32 #[.pointer (some ⟨cb,0,none⟩),.int .i64 ((i:Nat)+1)] G ((cb,clO (.slice A ps.length c::L))::νn) (Keeps (.int .i64 0) G ((cb,clO (.slice A ps.length c::L))::νn)):=by
 have q1:=clNode_s (cb:=cb) (L:=L) hp hi h9
 obtain ⟨ν1,νr,hQ,hperm,-⟩:=hN.pick hi
 have q2:=Con.keepsK (Con.frameK ((ndVersion_s hQ).mono fun v G' μ' h=>(⟨h.2.2,h.1⟩:_∧_)) hperm)
 (refine v_enter Tryz.func32 rfl Tryz.ntmps32 rfl ?_;intro B _)
 repeat' (first|refine Wa ?_|(refine Wc ⟨?_,?_⟩<;>first|intro h|exact ⟨⟩)|apply v_callK (hs:=q1) (μ2:=νn);(case ha=>rfl);(case hp=>exact List.Perm.refl _);(case hd=>rfl)|apply v_callK (hs:=q2) (μ2:=[(cb,clO (.slice A ps.length c::L))]);(case ha=>rfl);(case hp=>exact List.perm_append_comm (l₁:=[(cb,clO (.slice A ps.length c::L))]));(case hd=>rfl)|fail)
 exact v_ret _ (outsA1 rfl rfl) (List.Sublist.refl _) ⟨rfl,rfl,rfl⟩
theorem keysC_s {G:GH}{m:Nat}:Con Tryz.prog 76 #[.map (some m)] G []
 (fun r G' μ'=>∃ b,r=.func (.func 118) #[] #[.pointer (some ⟨b,0,none⟩)]∧G'=G∧μ'=[(b,.cells [Value.map (some m)].toArray 62 (0,0))]):=by
 (refine v_enter Tryz.func76 rfl Tryz.ntmps76 rfl ?_;intro B _)
 repeat' (first|refine Wa ?_|(refine Wc ⟨?_,?_⟩<;>first|intro h|exact ⟨⟩)|(refine Wb ?_;intro b)|fail)
 refine v_ret [(b,_)] (outsA1 rfl rfl) sS ?_
 exact ⟨b,rfl,rfl,rfl⟩
instance keyT_intC:KeyT Tryz.prog 3 keyI:=KeyT.int
theorem leftC_perm {left:List Int}{a:Int}(hn:left.Nodup) (ha:a∈left):left.Perm (a::left.filter fun z=>decide (z≠a)):=by
 refine perm_of_mem hn ?_ fun x=>?_
 ·rw [List.nodup_cons]
  exact ⟨by simp,hn.sublist List.filter_sublist⟩
 ·simp only [List.mem_cons,List.mem_filter,decide_eq_true_eq]
  by_cases hx:x=a
  ·subst hx;simp [ha]
  ·simp [hx]
theorem keysC_seq {G:GH}{l:List (Int×Value)}{m b:Nat}{oM:Obj}(hM:MapB keyI l oM):SeqCon Tryz.prog 118 [.pointer (some ⟨b,0,none⟩)] keyI (fun xs=>xs.Perm (l.map (·.1))) l.length G [(b,.cells [Value.map (some m)].toArray 62 (0,0)),(m,oM)]:=by
 intro lp J G1 ν hle hJ0 hY
 have hnd:=hM.nodup
 (refine v_enter Tryz.func118 rfl Tryz.ntmps118 rfl ?_;intro B _)
 repeat' (first|refine Wa ?_|(refine Wc ⟨?_,?_⟩<;>first|intro h|exact ⟨⟩)|apply v_rangeM (hb:=aM) (hM:=hM);(case hx|hd=>rfl);intro it oI hI|refine Wr ?_|(refine Wb ?_;intro b)|fail)
 refine v_loopI (ι:=List Int×List Int) [5,0] (fun i vs G' μ'=>GH.le G1 G'∧∃ ν' oI,IterB keyI m l i.2 oM oI∧i.2.Nodup∧(i.1++i.2).Perm (l.map (·.1))∧vs=[.pointer (some ⟨it,0,none⟩),.func (.yield lp) #[] #[]]∧J i.1 G' ν'∧μ'=(it,oI)::(b,.cells [Value.map (some m)].toArray 62 (0,0))::(m,oM)::ν') (fun i=>i.2.length) rfl ([],l.map (·.1)) ⟨GH.le_refl _,ν,oI,hI,hnd,List.Perm.refl _,rfl,hJ0,rfl⟩ ?_
 rintro ⟨pre,left⟩ vs G' _ ⟨hle',ν',oI',hI',hn,hper,rfl,hJ,rfl⟩
 simp only at hI' hn hper hJ
 have hlen:=hper.length_eq
 rw [List.length_append,List.length_map] at hlen
 repeat' (first|refine Wa ?_|(refine Wc ⟨?_,?_⟩<;>first|intro h|exact ⟨⟩)|apply v_nextM (k:=3) (hb:=aM) (hI:=hI');(case hx=>rfl);(case hp=>exact List.Perm.refl _);(case hd=>rfl)|refine Wr ?_|(refine Wb ?_;intro b)|fail)
 ·intro h0
  subst h0
  repeat' (first|refine Wa ?_|(refine Wc ⟨?_,?_⟩<;>first|intro h|exact ⟨⟩)|refine Wr ?_|(refine Wb ?_;intro b)|fail)
  refine v_end ([(b,_),(m,oM)]++ν') (outsA0 rfl) sS ?_
  exact ⟨pre,ν',by simpa using hper,hJ,rfl⟩
 ·intro a u oI2 ha hau hI2 hE
  have hy:=hY pre a G' ν' hle' hJ (by
   have:0<left.length:=List.length_pos_of_mem ha
   omega)
  have hlp:=leftC_perm hn ha
  repeat' (first|refine Wa ?_|(refine Wc ⟨?_,?_⟩<;>first|intro h|exact ⟨⟩)|apply v_read;(case hop=>apply r_entry (hE:=hE);(case hx=>rfl);(case hi=>exact aM);(case hb=>exact aM));(case hd=>rfl)|apply v_yield (hs:=hy);(case hx|ha=>rfl);(case hp=>exact (List.perm_append_comm (l₁:=[(it,oI2),(b,Obj.cells [Value.map (some m)].toArray 62 (0,0)),(m,oM)]) (l₂:=ν')));(case hd=>rfl);rintro _ G2 ν2 hle2 ⟨rfl,hJ2⟩|refine Wr ?_|(refine Wb ?_;intro b)|fail)
  refine v_perm List.perm_append_comm ?_
  refine v_againI (pre++[a],left.filter fun z=>decide (z≠a)) rfl ⟨GH.le_trans hle' hle2,ν2,oI2,hI2,hn.sublist List.filter_sublist,?_,rfl,hJ2,rfl⟩ ?_
  ·refine List.Perm.trans ?_ hper
   simp only [List.append_assoc,List.singleton_append]
   exact List.Perm.append_left _ hlp.symm
  ·have:=hlp.length_eq
   simp only [List.length_cons] at this ⊢
   omega
theorem clLog0_s {G:GH}{cb bg lm:Nat}{A:Option Addr}{c:Nat}{ps:List Nat}:Con Tryz.prog 39 #[.pointer (some ⟨cb,0,none⟩)] G [(cb,clO (clZ (.slice A ps.length c) bg lm)),(lm,.map #[] 0)] (Keeps nilS G [(cb,clO (clZ (.slice A ps.length c) bg lm)),(lm,.map #[] 0)]):=by
 (refine v_enter Tryz.func39 rfl Tryz.ntmps39 rfl ?_;intro B _)
 have hM:MapB keyI [] (.map #[] 0):=MapB.nil
 repeat' (first|refine Rp ?_|refine Wa ?_|(refine Wc ⟨?_,?_⟩<;>first|intro h|exact ⟨⟩)|refine Wr ?_|(refine Wb ?_;intro b)|fail)
 refine cQ rfl keysC_s ?_
 rintro _ G1 _ - ⟨b,rfl,hG1,rfl⟩
 subst G1
 have q2:=sorted_s (G:=G) (S:=fun xs=>xs.Perm (([]:List (Int×Value)).map (·.1))) (N:=0) (by omega) (fun xs h=>by rw [h.length_eq];simp) (keysC_seq (m:=lm) (b:=b) hM)
 repeat' (first|refine Wa ?_|(refine Wc ⟨?_,?_⟩<;>first|intro h|exact ⟨⟩)|refine Wr ?_|(refine Wb ?_;intro b)|fail)
 refine v_call (μ1:=[(b,_),(lm,.map #[] 0)]) (μ2:=[(cb,clO (clZ (.slice A ps.length c) bg lm))]) rfl q2 aV rfl ?_
 rintro r G1 _ - ⟨hG1,xs,ν,hxs,hg,rfl⟩
 subst G1
 have hx0:xs=[]:=List.Perm.eq_nil hxs
 subst hx0
 obtain ⟨A3,c3,rfl,-,-⟩:=hg.shape
 refine v_dropP [(cb,clO (clZ (.slice A ps.length c) bg lm)),(lm,.map #[] 0)] (ν++[(b,_)]) aV ?_
 repeat' (first|refine Wa ?_|(refine Wc ⟨?_,?_⟩<;>first|intro h|exact ⟨⟩)|refine Wr ?_|(refine Wb ?_;intro b)|fail)
 refine v_loop [15,14,3] (fun us G' μ'=>G'=G∧μ'=[(cb,clO (clZ (.slice A ps.length c) bg lm)),(lm,.map #[] 0)]∧us=[Value.int .i64 0,.int .i64 0,nilS]) (fun us=>0) rfl ⟨rfl,rfl,rfl⟩ ?_
 rintro us G' _ ⟨hG',rfl,rfl⟩
 subst G'
 repeat' (first|refine Wa ?_|(refine Wc ⟨?_,?_⟩<;>first|intro h|exact ⟨⟩)|refine Wr ?_|(refine Wb ?_;intro b)|fail)
 exact v_ret _ (outsA1 rfl rfl) (List.Sublist.refl _) ⟨rfl,rfl,rfl⟩
end Go.Proofs.YtnncjoooaknlmaaGreatDoor
/-
  disk (layer 18), in plain Lean: files by numbers; what is done to them, by the program and by the reference.
-/
namespace Go.Proofs.YtnncjoooaknlmaaGreatDoor
open Go.Vx Go.ChangeShapes Go.WideShapes Go.ChangeAt Go.RowKit
noncomputable instance:DecidableEq Cm:=fun a b=>Classical.propDecidable (a=b)
theorem cm_dec (c c':Cm):(dec (c.kind=c'.kind) && (dec (c.client=c'.client) && (dec (c.seq=c'.seq) && (dec (c.key=c'.key) && (dec (c.val=c'.val) && (dec (c.old=c'.old) && (dec (c.node=c'.node) && true)))))))=dec (c=c'):=by
 obtain ⟨a1,a2,a3,a4,a5,a6,a7⟩:=c
 obtain ⟨b1,b2,b3,b4,b5,b6,b7⟩:=c'
 rw [Bool.eq_iff_iff]
 simp [dec_true]
def laysClone_ren:Go.Shelf.Ren:=⟨fun|5=>176|7=>204|n=>n,fun|3=>86|4=>4|20=>20|23=>175|25=>3|n=>n,fun n=>n⟩
theorem laysClone:SlLaysW.n5 Tryz.prog laysClone_ren where
 mixed:=by kernel_rfl
 f5:=⟨"maps.Clone[map[int][]byte,int,[]byte]",by decide,Tryz.func176.trans (congrArg some (by kernel_rfl))⟩
 f7:=Tryz.func204.trans (congrArg some (by kernel_rfl))
 t4:=Tryz.underlying4
 a4:=Tryz.isAgg4
 z4:=Tryz.sizeOf4
 v4:=Tryz.zeroValue4
 t20:=Tryz.underlying20
 a20:=Tryz.isAgg20
 z20:=Tryz.sizeOf20
 v20:=Tryz.zeroValue20
 t23:=Tryz.underlying175
 a23:=Tryz.isAgg175
 z23:=Tryz.sizeOf175
 v23:=Tryz.zeroValue175
theorem cloneM_s {G:GH}{l:List (Int×Value)}{m:Nat}{oM:Obj}(hM:MapB keyI l oM):Con Tryz.prog 176 #[.map (some m)] G [(m,oM)] (fun r G' μ'=>G'=G∧∃ b,r=.map (some b)∧μ'=[(b,oM),(m,oM)]):=by
 obtain ⟨L,clock,rfl,hok⟩:=hM
 refine Con.ofCallsS fun w hw=>?_
 refine (AnyW.maps_Clone laysClone m _ clock w (hw.own _ _ (List.Mem.head _))).mono ?_
 rintro e w' ⟨rfl,rfl⟩
 exact ⟨_,rfl,G,_,Step.alloc hw _,rfl,_,rfl,rfl⟩
instance keyT_intD:KeyT Tryz.prog 3 keyI:=KeyT.int
theorem leftD_perm {left:List Int}{a:Int}(hn:left.Nodup) (ha:a∈left):left.Perm (a::left.filter fun z=>decide (z≠a)):=by
 refine perm_of_mem hn ?_ fun x=>?_
 ·rw [List.nodup_cons]
  exact ⟨by simp,hn.sublist List.filter_sublist⟩
 ·simp only [List.mem_cons,List.mem_filter,decide_eq_true_eq]
  by_cases hx:x=a
  ·subst hx;simp [ha]
  ·simp [hx]
theorem keysB_s {G:GH}{m:Nat}:Con Tryz.prog 206 #[.map (some m)] G []
 (fun r G' μ'=>∃ b,r=.func (.func 228) #[] #[.pointer (some ⟨b,0,none⟩)]∧G'=G∧μ'=[(b,.cells [Value.map (some m)].toArray 175 (0,0))]):=by
 (refine v_enter Tryz.func206 rfl Tryz.ntmps206 rfl ?_;intro B _)
 repeat' (first|refine Wa ?_|(refine Wc ⟨?_,?_⟩<;>first|intro h|exact ⟨⟩)|(refine Wb ?_;intro b)|fail)
 refine v_ret [(b,_)] (outsA1 rfl rfl) sS ?_
 exact ⟨b,rfl,rfl,rfl⟩
theorem keysB_seq {G:GH}{l:List (Int×Value)}{m b:Nat}{oM:Obj}(hM:MapB keyI l oM):SeqCon Tryz.prog 228 [.pointer (some ⟨b,0,none⟩)] keyI (fun xs=>xs.Perm (l.map (·.1))) l.length G [(b,.cells [Value.map (some m)].toArray 175 (0,0)),(m,oM)]:=by
 intro lp J G1 ν hle hJ0 hY
 have hnd:=hM.nodup
 (refine v_enter Tryz.func228 rfl Tryz.ntmps228 rfl ?_;intro B _)
 repeat' (first|refine Wa ?_|(refine Wc ⟨?_,?_⟩<;>first|intro h|exact ⟨⟩)|apply v_rangeM (hb:=aM) (hM:=hM);(case hx|hd=>rfl);intro it oI hI|refine Wr ?_|(refine Wb ?_;intro b)|fail)
 refine v_loopI (ι:=List Int×List Int) [5,0] (fun i vs G' μ'=>GH.le G1 G'∧∃ ν' oI,IterB keyI m l i.2 oM oI∧i.2.Nodup∧(i.1++i.2).Perm (l.map (·.1))∧vs=[.pointer (some ⟨it,0,none⟩),.func (.yield lp) #[] #[]]∧J i.1 G' ν'∧μ'=(it,oI)::(b,.cells [Value.map (some m)].toArray 175 (0,0))::(m,oM)::ν') (fun i=>i.2.length) rfl ([],l.map (·.1)) ⟨GH.le_refl _,ν,oI,hI,hnd,List.Perm.refl _,rfl,hJ0,rfl⟩ ?_
 rintro ⟨pre,left⟩ vs G' _ ⟨hle',ν',oI',hI',hn,hper,rfl,hJ,rfl⟩
 simp only at hI' hn hper hJ
 have hlen:=hper.length_eq
 rw [List.length_append,List.length_map] at hlen
 repeat' (first|refine Wa ?_|(refine Wc ⟨?_,?_⟩<;>first|intro h|exact ⟨⟩)|apply v_nextM (k:=3) (hb:=aM) (hI:=hI');(case hx=>rfl);(case hp=>exact List.Perm.refl _);(case hd=>rfl)|refine Wr ?_|(refine Wb ?_;intro b)|fail)
 ·intro h0
  subst h0
  repeat' (first|refine Wa ?_|(refine Wc ⟨?_,?_⟩<;>first|intro h|exact ⟨⟩)|refine Wr ?_|(refine Wb ?_;intro b)|fail)
  refine v_end ([(b,_),(m,oM)]++ν') (outsA0 rfl) sS ?_
  exact ⟨pre,ν',by simpa using hper,hJ,rfl⟩
 ·intro a u oI2 ha hau hI2 hE
  have hy:=hY pre a G' ν' hle' hJ (by
   have:0<left.length:=List.length_pos_of_mem ha
   omega)
  have hlp:=leftD_perm hn ha
  repeat' (first|refine Wa ?_|(refine Wc ⟨?_,?_⟩<;>first|intro h|exact ⟨⟩)|apply v_read;(case hop=>apply r_entry (hE:=hE);(case hx=>rfl);(case hi=>exact aM);(case hb=>exact aM));(case hd=>rfl)|apply v_yield (hs:=hy);(case hx|ha=>rfl);(case hp=>exact (List.perm_append_comm (l₁:=[(it,oI2),(b,Obj.cells [Value.map (some m)].toArray 175 (0,0)),(m,oM)]) (l₂:=ν')));(case hd=>rfl);rintro _ G2 ν2 hle2 ⟨rfl,hJ2⟩|refine Wr ?_|(refine Wb ?_;intro b)|fail)
  refine v_perm List.perm_append_comm ?_
  refine v_againI (pre++[a],left.filter fun z=>decide (z≠a)) rfl ⟨GH.le_trans hle' hle2,ν2,oI2,hI2,hn.sublist List.filter_sublist,?_,rfl,hJ2,rfl⟩ ?_
  ·refine List.Perm.trans ?_ hper
   simp only [List.append_assoc,List.singleton_append]
   exact List.Perm.append_left _ hlp.symm
  ·have:=hlp.length_eq
   simp only [List.length_cons] at this ⊢
   omega
end Go.Proofs.YtnncjoooaknlmaaGreatDoor
/-
  cluster (layer 41): what more a cluster at its beginning is asked: calls, formats, why, who leads.
-/
set_option maxHeartbeats 2000000
namespace Go.Proofs.YtnncjoooaknlmaaGreatDoor
open Go.Vx Go.ChangeShapes Go.WideShapes Go.ChangeAt Go.RowKit
def NilG (G:GH) (_:Value) (G':GH) (μ':OH):Prop:=G'=G∧μ'=[]
theorem insN_s (G:GH) (cv:Value):Con Tryz.prog 153 #[.slice none 0 0,.int .i64 0,.int .i64 0,cv] G [] (NilG G):=by
 (refine v_enter Tryz.func153 rfl Tryz.ntmps153 rfl ?_;intro B _)
 repeat' (first|refine Wa ?_|(refine Wc ⟨?_,?_⟩<;>first|intro h|exact ⟨⟩)|refine Wr ?_|fail)
 refine v_loop [8,2] (fun us G' μ'=>G'=G∧us=[Value.int .i64 1,.int .i64 0]∧μ'=[]) (fun us=>0) rfl ⟨rfl,rfl,rfl⟩ ?_
 rintro us G' _ ⟨rfl,rfl,rfl⟩
 repeat' (first|refine Wa ?_|(refine Wc ⟨?_,?_⟩<;>first|intro h|exact ⟨⟩)|refine Wr ?_|fail)
 exact v_end [] (outsA0 rfl) (List.Sublist.refl _) ⟨rfl,rfl⟩
theorem stableN_s (G:GH) (cv:Value):Con Tryz.prog 114 #[.slice none 0 0,.int .i64 0,cv] G [] (NilG G):=by
 have q:=insN_s G cv
 (refine v_enter Tryz.func114 rfl Tryz.ntmps114 rfl ?_;intro B _)
 repeat' (first|refine Wa ?_|(refine Wc ⟨?_,?_⟩<;>first|intro h|exact ⟨⟩)|fail)
 refine v_loop [8,7,6,2,1,0] (fun us G' μ'=>G'=G∧us=[Value.int .i64 20,.int .i64 0,.int .i64 20,cv,.int .i64 0,.slice none 0 0]∧μ'=[]) (fun us=>0) rfl ⟨rfl,rfl,rfl⟩ ?_
 rintro us G' _ ⟨rfl,rfl,rfl⟩
 repeat' (first|refine Wa ?_|(refine Wc ⟨?_,?_⟩<;>first|intro h|exact ⟨⟩)|fail)
 refine cQ rfl q ?_
 rintro _ G5 μ' - ⟨hG5,hμ'⟩
 subst G5
 subst μ'
 repeat' (first|refine Wa ?_|(refine Wc ⟨?_,?_⟩<;>first|intro h|exact ⟨⟩)|fail)
 refine v_loop [6,1] (fun us G2 μ'=>G2=G'∧us=[Value.int .i64 20,.int .i64 0]∧μ'=[]) (fun us=>0) rfl ⟨rfl,rfl,rfl⟩ ?_
 rintro us G2 _ ⟨rfl,rfl,rfl⟩
 repeat' (first|refine Wa ?_|(refine Wc ⟨?_,?_⟩<;>first|intro h|exact ⟨⟩)|fail)
 exact v_end [] (outsA0 rfl) (List.Sublist.refl _) ⟨rfl,rfl⟩
theorem sortN_s (G:GH) (cv:Value):Con Tryz.prog 72 #[.slice none 0 0,cv] G [] (NilG G):=by
 have q:=stableN_s G cv
 (refine v_enter Tryz.func72 rfl Tryz.ntmps72 rfl ?_;intro B _)
 repeat' (first|refine Wa ?_|(refine Wc ⟨?_,?_⟩<;>first|intro h|exact ⟨⟩)|fail)
 refine cQ rfl q ?_
 rintro _ G5 μ' - ⟨hG5,hμ'⟩
 subst G5
 subst μ'
 repeat' (first|refine Wa ?_|(refine Wc ⟨?_,?_⟩<;>first|intro h|exact ⟨⟩)|fail)
 exact v_end [] (outsA0 rfl) (List.Sublist.refl _) ⟨rfl,rfl⟩
theorem doE_s {G:GH}{m:Nat}:Con Tryz.prog 177 #[.map (some m),nilS] G [] (NilG G):=by
 (refine v_enter Tryz.func177 rfl Tryz.ntmps177 rfl ?_;intro B _)
 repeat' (first|refine Wa ?_|(refine Wc ⟨?_,?_⟩<;>first|intro h|exact ⟨⟩)|refine Wr ?_|(refine Wb ?_;intro b)|fail)
 refine v_loop [10,9,8,0] (fun us G' μ'=>G'=G∧us=[Value.int .i64 0,.int .i64 0,nilS,.map (some m)]∧μ'=[]) (fun us=>0) rfl ⟨rfl,rfl,rfl⟩ ?_
 rintro us G' _ ⟨rfl,rfl,rfl⟩
 repeat' (first|refine Wa ?_|(refine Wc ⟨?_,?_⟩<;>first|intro h|exact ⟨⟩)|refine Wr ?_|(refine Wb ?_;intro b)|fail)
 exact v_end [] (outsA0 rfl) (List.Sublist.refl _) ⟨rfl,rfl⟩
theorem listE_s {G:GH}{m:Nat}:Con Tryz.prog 178 #[.map (some m)] G [(m,.map #[] 0)] (Keeps nilS G [(m,.map #[] 0)]):=by
 have q1:=keysB_s (G:=G) (m:=m)
 have hM:MapB keyI [] (.map #[] 0):=MapB.nil
 apply Con.keeps
 (refine v_enter Tryz.func178 rfl Tryz.ntmps178 rfl ?_;intro B _)
 repeat' (first|refine Wa ?_|(refine Wc ⟨?_,?_⟩<;>first|intro h|exact ⟨⟩)|refine Wr ?_|(refine Wb ?_;intro b)|fail)
 rename_i bx
 refine v_call (μ1:=[]) (μ2:=[(b,.cells [.slice none 0 0].toArray 229 (0,0)),(bx,.cells [Value.map (some m)].toArray 175 (0,0)),(m,.map #[] 0)]) rfl q1 (List.Perm.refl _) rfl ?_
 rintro _ G1 _ - ⟨b3,rfl,hG1,rfl⟩
 subst G1
 have q2:=sorted_s (N:=0) (by omega) (fun xs h=>by rw [h.length_eq,List.length_map];simp) (keysB_seq (G:=G) (m:=m) (b:=b3) hM)
 repeat' (first|refine Wa ?_|(refine Wc ⟨?_,?_⟩<;>first|intro h|exact ⟨⟩)|refine Wr ?_|(refine Wb ?_;intro b)|fail)
 refine v_call (μ1:=[(b3,.cells [Value.map (some m)].toArray 175 (0,0)),(m,.map #[] 0)]) (μ2:=[(b,.cells [.slice none 0 0].toArray 229 (0,0)),(bx,.cells [Value.map (some m)].toArray 175 (0,0))]) rfl q2 aV rfl ?_
 rintro v2 G2 _ - ⟨hG2,xs,ν,hp,hg,rfl⟩
 subst G2
 have hx0:xs=[]:=List.Perm.eq_nil hp
 subst hx0
 refine v_frzP ν (List.Perm.of_eq (List.append_assoc _ _ _)) ?_
 intro G2 hle2 hG2
 rw [show sortL []=[] from List.Perm.eq_nil (sortL_perm [])] at hg
 have hs:=hg.ints (l:=[]) hG2 (by intro x hx;cases hx)
 obtain ⟨A2,c2,rfl,-⟩:=id hs.openInt
 repeat' (first|refine Wa ?_|(refine Wc ⟨?_,?_⟩<;>first|intro h|exact ⟨⟩)|refine Wr ?_|(refine Wb ?_;intro b)|fail)
 refine v_call (μ1:=[]) (μ2:=_) rfl values_s (List.Perm.refl _) rfl ?_
 rintro _ G3 _ - ⟨b4,rfl,hG3,rfl⟩
 subst G3
 have hseq:=vals_seq (b:=b4) hs (by simp)
 repeat' (first|refine Wa ?_|(refine Wc ⟨?_,?_⟩<;>first|intro h|exact ⟨⟩)|refine Wr ?_|(refine Wb ?_;intro b)|fail)
 refine v_rangeFunc (enc:=keyI) (N:=0) (S:=fun xs'=>xs'=[]) (μ1:=[(b4,.cells [.slice A2 0 c2].toArray 43 (0,0))]) (μ2:=[(b3,.cells [Value.map (some m)].toArray 175 (0,0)),(b,.cells [.slice none 0 0].toArray 229 (0,0)),(m,.map #[] 0),(bx,.cells [Value.map (some m)].toArray 175 (0,0))]) (σ':=fun x=>_) (fun pre G' ν=>pre=[]∧ν=[(b3,.cells [Value.map (some m)].toArray 175 (0,0)),(b,.cells [.slice none 0 0].toArray 229 (0,0)),(m,.map #[] 0),(bx,.cells [Value.map (some m)].toArray 175 (0,0))]) rfl hseq aV rfl (fun x=>Assigns.region (.cons (p_assign rfl) rfl (.nil _))) rfl ⟨rfl,rfl⟩ ?_ ?_
 ·rintro l B' _ pre x G4 _ hle4 ⟨rfl,rfl⟩ hpl
  exact absurd hpl (by simp)
 ·rintro B' D _ xs' G4 _ hle4 rfl ⟨-,rfl⟩
  repeat' (first|refine Wa ?_|(refine Wc ⟨?_,?_⟩<;>first|intro h|exact ⟨⟩)|refine Wr ?_|(refine Wb ?_;intro b)|fail)
  refine v_retD (Ds:=[D]) [(m,.map #[] 0)] (fun ds a ha w _=>outs1 rfl rfl ds a ha) (List.Perm.refl _) ?_ ⟨rfl,rfl⟩
  exact List.Sublist.cons _ (List.Sublist.cons _ (List.Sublist.cons _ (List.Sublist.cons_cons _ (List.nil_sublist _))))
theorem viewE_s {G:GH}{d m:Nat}:Con Tryz.prog 148 #[.pointer (some ⟨d,0,none⟩)] G [(d,dkO0 m),(m,.map #[] 0)] (Keeps nilS G [(d,dkO0 m),(m,.map #[] 0)]):=by
 have q1:=cloneM_s (G:=G) (m:=m) (l:=[]) (oM:=.map #[] 0) MapB.nil
 apply Con.keeps
 unfold dkO0
 (refine v_enter Tryz.func148 rfl Tryz.ntmps148 rfl ?_;intro B _)
 repeat' (first|refine Rp ?_|refine Wa ?_|(refine Wc ⟨?_,?_⟩<;>first|intro h|exact ⟨⟩)|refine Wr ?_|fail)
 refine v_call (μ1:=[(m,.map #[] 0)]) (μ2:=[(d,.cells [.map (some m),.slice none 0 0].toArray 178 (0,0))]) rfl q1 (List.Perm.swap _ _ _) rfl ?_
 rintro _ G1 _ - ⟨hG1,cb,rfl,rfl⟩
 subst G1
 have q2:=doE_s (G:=G) (m:=cb)
 have q3:=listE_s (G:=G) (m:=cb)
 repeat' (first|refine Rp ?_|refine Wa ?_|(refine Wc ⟨?_,?_⟩<;>first|intro h|exact ⟨⟩)|refine Wr ?_|fail)
 refine cQ rfl q2 ?_
 rintro _ G1 μ1 - ⟨hG1,hμ⟩
 subst G1
 subst μ1
 repeat' (first|refine Rp ?_|refine Wa ?_|(refine Wc ⟨?_,?_⟩<;>first|intro h|exact ⟨⟩)|refine Wr ?_|fail)
 refine v_call (μ1:=[(cb,.map #[] 0)]) (μ2:=[(m,.map #[] 0),(d,.cells [.map (some m),.slice none 0 0].toArray 178 (0,0))]) rfl q3 (List.Perm.refl _) rfl ?_
 rintro _ G1 _ - ⟨rfl,hG1,rfl⟩
 subst G1
 repeat' (first|refine Wa ?_|(refine Wc ⟨?_,?_⟩<;>first|intro h|exact ⟨⟩)|refine Wr ?_|fail)
 refine v_perm (ν:=[(d,.cells [.map (some m),.slice none 0 0].toArray 178 (0,0)),(m,.map #[] 0),(cb,.map #[] 0)]) aV ?_
 exact v_ret [(d,_),(m,_)] (outsA1 rfl rfl) (List.Sublist.cons_cons _ (List.Sublist.cons_cons _ (List.nil_sublist _))) ⟨rfl,rfl⟩
abbrev hzL:List Value:=[.int .i64 0,.int .i64 0,.int .i64 0,nilS,nilS,nilS]
theorem peekE_s {G:GH}{d m:Nat}:Con Tryz.prog 108 #[.pointer (some ⟨d,0,none⟩)] G [(d,dkO0 m),(m,.map #[] 0)] (Keeps (.tuple [.int .i64 1,.agg hzL.toArray].toArray) G [(d,dkO0 m),(m,.map #[] 0)]):=by
 have q:=viewE_s (G:=G) (d:=d) (m:=m)
 apply Con.keeps
 (refine v_enter Tryz.func108 rfl Tryz.ntmps108 rfl ?_;intro B _)
 repeat' (first|apply v_alloc (d:=3) (zs:=hzL);(case hz|hd=>rfl);intro b3|apply v_alloc (d:=5) (zs:=hzL);(case hz|hd=>rfl);intro b5|apply v_pure;(case hop=>exact p_build (ps:=[]) (vs:=[]) (zs:=hzL) (cs:=hzL) rfl rfl rfl);(case hd=>rfl)|refine Wa ?_|(refine Wc ⟨?_,?_⟩<;>first|intro h|exact ⟨⟩)|refine Wr ?_|(refine Wb ?_;intro b)|fail)
 refine v_callK (hs:=q) (μ2:=[(b5,.cells hzL.toArray 190 (0,0)),(b3,.cells hzL.toArray 190 (0,0))]) rfl (by exact List.perm_append_comm (l₁:=[_,_]) (l₂:=[_,_])) rfl ?_
 repeat' (first|refine Wa ?_|(refine Wc ⟨?_,?_⟩<;>first|intro h|exact ⟨⟩)|refine Wr ?_|(refine Wb ?_;intro b)|fail)
 refine v_loop [14,13,12,4,5,3] (fun us G' μ'=>G'=G∧us=[Value.int .i64 0,.int .i64 0,nilS,.int .i64 1,.pointer (some ⟨b5,0,none⟩),.pointer (some ⟨b3,0,none⟩)]∧μ'=[(b5,.cells hzL.toArray 190 (0,0)),(b3,.cells hzL.toArray 190 (0,0)),(d,dkO0 m),(m,.map #[] 0)]) (fun us=>0) rfl ⟨rfl,rfl,rfl⟩ ?_
 rintro us G' _ ⟨rfl,rfl,rfl⟩
 repeat' (first|refine Wa ?_|(refine Wc ⟨?_,?_⟩<;>first|intro h|exact ⟨⟩)|refine Wr ?_|(refine Wb ?_;intro b)|fail)
 refine Dz [(b5,.cells hzL.toArray 190 (0,0)),(d,dkO0 m),(m,.map #[] 0)] ?_
 all_goals refine Dt [0,1,2] ?_
 all_goals (refine DS 3 ?_)
 all_goals refine Dd ?_
 all_goals repeat' (first|refine Wa ?_|(refine Wc ⟨?_,?_⟩<;>first|intro h|exact ⟨⟩)|refine Wr ?_|(refine Wb ?_;intro b)|fail)
 all_goals
  exact v_retM [(d,_),(m,_)] (outsM_tc (sz1:=6) (vs1:=hzL) (e1:=190) rfl rfl rfl aM rfl) (List.Sublist.cons _ (List.Sublist.cons _ (List.Sublist.refl _))) ⟨rfl,rfl⟩
theorem ndFormat_s {G:GH}{nid nodes:Int}{m:Im}{p:Nat}{ν:OH}(h:NewNd G nid nodes m p ν):Con Tryz.prog 68 #[.pointer (some ⟨p,0,none⟩)] G ν (Keeps (.int .i64 1) G ν):=by
 have q:=ndUp_s h
 obtain ⟨d,dm,F,I,hF,hI,hf,hi,rfl⟩:=h
 have q2:=peekE_s (G:=G) (d:=d) (m:=dm)
 match F,I,hf,hi with
 | [f0,f1,f2,f3,f4,f5],[i0,i1,i2,i3,i4,i5],_,_ =>
 apply Con.keeps
 (refine v_enter Tryz.func68 rfl Tryz.ntmps68 rfl ?_;intro B _)
 repeat' (first|refine Rp ?_|apply v_alloc (d:=4) (zs:=hzL);(case hz|hd=>rfl);intro b4|refine Wa ?_|(refine Wc ⟨?_,?_⟩<;>first|intro h|exact ⟨⟩)|refine cK q ?_|apply v_callK (hs:=q2) (μ2:=[(p,_)]);(case ha=>rfl);(case hp=>exact List.perm_append_comm (l₁:=[(p,_)]) (l₂:=[(d,_),(dm,_)]));(case hd=>rfl)|refine Wr ?_|(refine Wb ?_;intro b)|fail)
 exact v_ret [(p,_),(d,_),(dm,_)] (outsA1 rfl rfl) (List.Sublist.cons _ (List.Sublist.refl _)) ⟨rfl,rfl⟩
theorem ndWhy_s {G:GH}{nid nodes:Int}{m:Im}{p:Nat}{ν:OH}(h:NewNd G nid nodes m p ν):Con Tryz.prog 69 #[.pointer (some ⟨p,0,none⟩)] G ν (Keeps (.int .i64 0) G ν):=by
 obtain ⟨d,dm,F,I,hF,hI,hf,hi,rfl⟩:=h
 match F,I,hf,hi with
 | [f0,f1,f2,f3,f4,f5],[i0,i1,i2,i3,i4,i5],_,_ =>
 (refine v_enter Tryz.func69 rfl Tryz.ntmps69 rfl ?_;intro B _)
 repeat' (first|refine Rp ?_|refine Wa ?_|(refine Wc ⟨?_,?_⟩<;>first|intro h|exact ⟨⟩)|refine Wr ?_|fail)
 exact v_ret _ (outsA1 rfl rfl) (List.Sublist.refl _) ⟨rfl,rfl,rfl⟩
theorem ndLeads_s {G:GH}{nid nodes:Int}{m:Im}{p:Nat}{ν:OH}(h:NewNd G nid nodes m p ν):Con Tryz.prog 67 #[.pointer (some ⟨p,0,none⟩)] G ν (Keeps (.bool false) G ν):=by
 have q:=ndUp_s h
 apply Con.keeps
 (refine v_enter Tryz.func67 rfl Tryz.ntmps67 rfl ?_;intro B _)
 repeat' (first|(refine Wx 1 (zs:=[Value.pointer (some ⟨p,0,none⟩)]) ?_;intro b1)|refine Wa ?_|(refine Wc ⟨?_,?_⟩<;>first|intro h|exact ⟨⟩)|apply v_callK (hs:=q) (μ2:=[(b1,_)]);(case ha=>rfl);(case hp=>exact List.perm_append_comm (l₁:=[(b1,_)]));(case hd=>rfl)|refine Wr ?_|(refine Wb ?_;intro b)|fail)
 exact v_ret _ (outsA1 rfl rfl) (List.sublist_cons_self _ _) ⟨rfl,rfl⟩
section
variable {G:GH}{cb:Nat}{A:Option Addr}{c:Nat}{L:List Value}{ps:List Nat}{nodes:Int}{m:Im}{νn:OH}
theorem clUp_s (hp:PtS G (.slice A ps.length c) ps) (hN:NewNds G nodes m ps νn) {i:Nat}(hi:i<ps.length) (h9:ps.length≤9):Con Tryz.prog 31 #[.pointer (some ⟨cb,0,none⟩),.int .i64 ((i:Nat)+1)] G ((cb,clO (.slice A ps.length c::L))::νn) (Keeps (.bool false) G ((cb,clO (.slice A ps.length c::L))::νn)):=by
 have q1:=clNode_s (cb:=cb) (L:=L) hp hi h9
 obtain ⟨ν1,νr,hQ,hperm,-⟩:=hN.pick hi
 have q2:=Con.keepsK (Con.frameK ((ndUp_s hQ).mono fun v G' μ' h=>(⟨h.2.2,h.1⟩:_∧_)) hperm)
 (refine v_enter Tryz.func31 rfl Tryz.ntmps31 rfl ?_;intro B _)
 repeat' (first|refine Wa ?_|(refine Wc ⟨?_,?_⟩<;>first|intro h|exact ⟨⟩)|apply v_callK (hs:=q1) (μ2:=νn);(case ha=>rfl);(case hp=>exact List.Perm.refl _);(case hd=>rfl)|apply v_callK (hs:=q2) (μ2:=[(cb,clO (.slice A ps.length c::L))]);(case ha=>rfl);(case hp=>exact List.perm_append_comm (l₁:=[(cb,clO (.slice A ps.length c::L))]));(case hd=>rfl)|fail)
 exact v_ret _ (outsA1 rfl rfl) (List.Sublist.refl _) ⟨rfl,rfl,rfl⟩
theorem clLeads_s (hp:PtS G (.slice A ps.length c) ps) (hN:NewNds G nodes m ps νn) {i:Nat}(hi:i<ps.length) (h9:ps.length≤9):Con Tryz.prog 33 #[.pointer (some ⟨cb,0,none⟩),.int .i64 ((i:Nat)+1)] G ((cb,clO (.slice A ps.length c::L))::νn) (Keeps (.bool false) G ((cb,clO (.slice A ps.length c::L))::νn)):=by
 have q1:=clNode_s (cb:=cb) (L:=L) hp hi h9
 obtain ⟨ν1,νr,hQ,hperm,-⟩:=hN.pick hi
 have q2:=Con.keepsK (Con.frameK ((ndLeads_s hQ).mono fun v G' μ' h=>(⟨h.2.2,h.1⟩:_∧_)) hperm)
 (refine v_enter Tryz.func33 rfl Tryz.ntmps33 rfl ?_;intro B _)
 repeat' (first|refine Wa ?_|(refine Wc ⟨?_,?_⟩<;>first|intro h|exact ⟨⟩)|apply v_callK (hs:=q1) (μ2:=νn);(case ha=>rfl);(case hp=>exact List.Perm.refl _);(case hd=>rfl)|apply v_callK (hs:=q2) (μ2:=[(cb,clO (.slice A ps.length c::L))]);(case ha=>rfl);(case hp=>exact List.perm_append_comm (l₁:=[(cb,clO (.slice A ps.length c::L))]));(case hd=>rfl)|fail)
 exact v_ret _ (outsA1 rfl rfl) (List.Sublist.refl _) ⟨rfl,rfl,rfl⟩
theorem clFormat_s (hp:PtS G (.slice A ps.length c) ps) (hN:NewNds G nodes m ps νn) {i:Nat}(hi:i<ps.length) (h9:ps.length≤9):Con Tryz.prog 34 #[.pointer (some ⟨cb,0,none⟩),.int .i64 ((i:Nat)+1)] G ((cb,clO (.slice A ps.length c::L))::νn) (Keeps (.int .i64 1) G ((cb,clO (.slice A ps.length c::L))::νn)):=by
 have q1:=clNode_s (cb:=cb) (L:=L) hp hi h9
 obtain ⟨ν1,νr,hQ,hperm,-⟩:=hN.pick hi
 have q2:=Con.keepsK (Con.frameK ((ndFormat_s hQ).mono fun v G' μ' h=>(⟨h.2.2,h.1⟩:_∧_)) hperm)
 (refine v_enter Tryz.func34 rfl Tryz.ntmps34 rfl ?_;intro B _)
 repeat' (first|refine Wa ?_|(refine Wc ⟨?_,?_⟩<;>first|intro h|exact ⟨⟩)|apply v_callK (hs:=q1) (μ2:=νn);(case ha=>rfl);(case hp=>exact List.Perm.refl _);(case hd=>rfl)|apply v_callK (hs:=q2) (μ2:=[(cb,clO (.slice A ps.length c::L))]);(case ha=>rfl);(case hp=>exact List.perm_append_comm (l₁:=[(cb,clO (.slice A ps.length c::L))]));(case hd=>rfl)|fail)
 exact v_ret _ (outsA1 rfl rfl) (List.Sublist.refl _) ⟨rfl,rfl,rfl⟩
theorem clWhy_s (hp:PtS G (.slice A ps.length c) ps) (hN:NewNds G nodes m ps νn) {i:Nat}(hi:i<ps.length) (h9:ps.length≤9):Con Tryz.prog 35 #[.pointer (some ⟨cb,0,none⟩),.int .i64 ((i:Nat)+1)] G ((cb,clO (.slice A ps.length c::L))::νn) (Keeps (.int .i64 0) G ((cb,clO (.slice A ps.length c::L))::νn)):=by
 have q1:=clNode_s (cb:=cb) (L:=L) hp hi h9
 obtain ⟨ν1,νr,hQ,hperm,-⟩:=hN.pick hi
 have q2:=Con.keepsK (Con.frameK ((ndWhy_s hQ).mono fun v G' μ' h=>(⟨h.2.2,h.1⟩:_∧_)) hperm)
 (refine v_enter Tryz.func35 rfl Tryz.ntmps35 rfl ?_;intro B _)
 repeat' (first|refine Wa ?_|(refine Wc ⟨?_,?_⟩<;>first|intro h|exact ⟨⟩)|apply v_callK (hs:=q1) (μ2:=νn);(case ha=>rfl);(case hp=>exact List.Perm.refl _);(case hd=>rfl)|apply v_callK (hs:=q2) (μ2:=[(cb,clO (.slice A ps.length c::L))]);(case ha=>rfl);(case hp=>exact List.perm_append_comm (l₁:=[(cb,clO (.slice A ps.length c::L))]));(case hd=>rfl)|fail)
 exact v_ret _ (outsA1 rfl rfl) (List.Sublist.refl _) ⟨rfl,rfl,rfl⟩
end
section
attribute [local semireducible] PureOp
theorem p_append0 {P:Program}{ty t e:TypeId}{σ:Env}{agg:Bool}{sz bytes:Nat}{zero:Value}{x y:Operand}[hT:Ty P t (.slice e)] [hL:Lay P e agg sz bytes zero] (hx:Env.ev σ x=some (.slice none 0 0)) (hy:Env.ev σ y=some (.slice none 0 0)):PureOp P (.call { callee:=.builtin .append,args:=#[x,y],argTypes:=#[t,t] }) ty σ (.slice none 0 0):=by
 intro dst pos af g ρ hρ w
 have ht:P.underlying t=some (.slice e):=hT.h
 obtain ⟨i,hi,-,-,-⟩:=Lay.infoEx (P:=P) (t:=e) (agg:=agg) (size:=sz) (bytes:=bytes) (zero:=zero) inferInstance
 simp [execOp,resolve,invoke,builtin,hρ _ _ hx,hρ _ _ hy,Builtin.append_,run_underlying ht,sizeOf,typeInfo,hi,Builtin.lenOf,Builtin.firstCells]
end
section
variable {P:Program}{ty:TypeId}{σ:Env}{t:TypeId}{bytes:Nat}{zero:Value}
attribute [local semireducible] PureOp
theorem p_indexM1 {e:TypeId}{len:Nat}{x i:Operand}{vs:List Value}{v:Value}{k:IntKind}(m:Nat) [Ty P t (.array len e)] [Lay P e false 1 bytes zero] (hx:Env.ev σ x=some (.agg vs.toArray)) (hi:Env.ev σ i=some (.int k (m:Nat))) (h:m<len) (hu:vs[m]? = some v):PureOp P (.index t x i) ty σ v:=by
 intro dst pos af g ρ hρ w
 have h1:(0:Int)≤((m:Nat):Int)∧((m:Nat):Int)<(len:Nat):=by omega
 simp only [execOp,hρ _ _ hx,hρ _ _ hi,Instr.index,asIntOf,Sem.run_bind,Sem.run_pure,Result.andThen_ok,run_under (t:=t) (d:=.array len e),h1,and_self,if_true,Int.toNat_natCast,Go.Vx.run_sizeOf (P:=P) (t:=e) (agg:=false) (size:=1) (bytes:=bytes) (zero:=zero),part,Go.Vx.run_isAgg' (P:=P) (t:=e) (agg:=false) (size:=1) (bytes:=bytes) (zero:=zero)]
 simp [hu]
end
theorem clCalls0_s {G:GH}{cb bg lm:Nat}{A:Option Addr}{c:Nat}{ps:List Nat}:Con Tryz.prog 38 #[.pointer (some ⟨cb,0,none⟩)] G [(cb,clO (clZ (.slice A ps.length c) bg lm))] (Keeps nilS G [(cb,clO (clZ (.slice A ps.length c) bg lm))]):=by
 have q:=sortN_s G (.func (.func 73) #[] #[])
 apply Con.keeps
 (refine v_enter Tryz.func38 rfl Tryz.ntmps38 rfl ?_;intro B _)
 repeat' (first|refine Rp ?_|refine Wa ?_|(refine Wc ⟨?_,?_⟩<;>first|intro h|exact ⟨⟩)|refine Wr ?_|fail)
 refine v_loopI (ι:=Nat) [12,11,3] (fun k us G' μ'=>G'=G∧k≤9∧us=[Value.int .i64 (k:Nat),.agg (List.replicate 9 nilS).toArray,nilS]∧μ'=[(cb,clO (clZ (.slice A ps.length c) bg lm))]) (fun k=>9-k) rfl 0 ⟨rfl,by omega,rfl,rfl⟩ ?_
 rintro k us G' _ ⟨rfl,hk,rfl,rfl⟩
 by_cases hlt:k<9
 ·have hr:(List.replicate 9 nilS)[k]? = some nilS:=by rw [List.getElem?_replicate,if_pos hlt]
  repeat' (first|apply v_pure;(case hop=>exact p_indexM1 k rfl rfl hlt hr);(case hd=>rfl)|apply v_pure;(case hop=>exact p_append0 (e:=141) rfl rfl);(case hd=>rfl)|refine Wa ?_|(refine Wc ⟨?_,?_⟩<;>first|intro h|exact ⟨⟩)|refine Wr ?_|fail)
  exact v_againI (k+1) rfl ⟨rfl,by omega,rfl,rfl⟩ (by omega)
 ·obtain rfl:k=9:=by omega
  repeat' (first|refine Wa ?_|(refine Wc ⟨?_,?_⟩<;>first|intro h|exact ⟨⟩)|refine Wr ?_|fail)
  refine cQ rfl q ?_
  rintro _ G5 μ' - ⟨hG5,hμ'⟩
  subst G5
  subst μ'
  repeat' (first|refine Wa ?_|(refine Wc ⟨?_,?_⟩<;>first|intro h|exact ⟨⟩)|refine Wr ?_|fail)
  exact v_ret _ (outsA1 rfl rfl) (List.Sublist.refl _) ⟨rfl,rfl⟩
end Go.Proofs.YtnncjoooaknlmaaGreatDoor
/-
  quote (layer 6), plain: a text in quotes, by its runes; of a fine text by its bytes; the text of one in quotes.
-/
namespace Go.Proofs.YtnncjoooaknlmaaGreatDoor
open Go.Vx Go.ChangeShapes Go.WideShapes Go.ChangeAt Go.RowKit
def hexD (n:Nat):UInt8:=if n<10 then UInt8.ofNat (48+n) else UInt8.ofNat (87+n)
def byteL (c:Nat):List UInt8:=[92,120,hexD (c / 16),hexD (c % 16)]
def pieceL (s:ByteArray) (p n:Nat):List UInt8:=(s.data.toList.drop p).take n
def escape1 (r:Nat) (l:List UInt8):List UInt8:=if r=34∨r=92 then 92::l else if r<32∨r=127∨(r=65533∧l.length=1) then byteL (l.headD 0).toNat else l
def quoR (s:ByteArray):Nat→Nat→List UInt8
 | 0,_ => []
 | n+1,p=>if p<s.size then escape1 (Utf8.decode s p).1 (pieceL s p (Utf8.decode s p).2)++quoR s n (p+(Utf8.decode s p).2) else []
def quoteB (s:ByteArray):ByteArray:=⟨(34::(quoR s s.size 0++[34])).toArray⟩
def escB (b:UInt8):List UInt8:=if b=34∨b=92 then [92,b] else [b]
def escL (l:List UInt8):List UInt8:=l.flatMap escB
theorem escL_append (a b:List UInt8):escL (a++b)=escL a++escL b:=List.flatMap_append ..
theorem escL_big {l:List UInt8}(h:∀ b∈l,128≤b.toNat):escL l=l:=by
 induction l with
 | nil=>rfl
 | cons b l ih =>
  have hb:=h b (List.mem_cons_self ..)
  have h1:b≠34:=by intro e;subst e;simp at hb
  have h2:b≠92:=by intro e;subst e;simp at hb
  show escB b++escL l=b::l
  rw [ih fun c hc=>h c (List.mem_cons_of_mem _ hc)]
  unfold escB
  rw [if_neg (by simp [h1,h2])]
  rfl
theorem byt_toList (s:ByteArray) (i:Nat) (h:i<s.size):s.data.toList[i]? = some (s.get! i):=by
 rw [Array.getElem?_toList]
 have:i<s.data.size:=h
 rw [Array.getElem?_eq_getElem this]
 congr 1
 show s.data[i]=s.data[i]!
 rw [getElem!_pos s.data i this]
theorem pieceL_len {s:ByteArray}{p n:Nat}(h:p+n≤s.size):(pieceL s p n).length=n:=by
 unfold pieceL
 have:s.data.toList.length=s.size:=Array.length_toList ..
 rw [List.length_take,List.length_drop]
 omega
theorem pieceL_mem {s:ByteArray}{p n:Nat}{b:UInt8}(h:b∈pieceL s p n):∃ j,p≤j∧j<p+n∧j<s.size∧b.toNat=byt s j:=by
 unfold pieceL at h
 obtain ⟨k,hk,rfl⟩:=List.getElem_of_mem h
 have hl:s.data.toList.length=s.size:=Array.length_toList ..
 rw [List.length_take,List.length_drop] at hk
 refine ⟨p+k,by omega,by omega,by omega,?_⟩
 have e:=byt_toList s (p+k) (by omega)
 rw [List.getElem?_eq_getElem (by omega)] at e
 rw [List.getElem_take,List.getElem_drop,Option.some.inj e]
 unfold byt
 rfl
theorem pieceL_one {s:ByteArray}{p:Nat}(h:p<s.size):pieceL s p 1=[s.get! p]:=by
 unfold pieceL
 have hl:s.data.toList.length=s.size:=Array.length_toList ..
 have e:=byt_toList s p h
 rw [List.getElem?_eq_getElem (by omega)] at e
 rw [List.drop_eq_getElem_cons (by omega),List.take_succ_cons,List.take_zero,Option.some.inj e]
theorem szFin_big {s:ByteArray}{i m low v:Nat}(hb:128≤byt s i) (hm:1≤m) (h:(szFin s i m low v).1≠0):2≤(szFin s i m low v).1∧low≤(szFin s i m low v).2∧∀ j,i≤j→j<i+(szFin s i m low v).1→128≤byt s j:=by
 obtain ⟨h1,h2,h3,h4⟩:=szFin_spec h
 rw [h3]
 refine ⟨by show 2≤m+1;omega,h4,fun j hj hj2=>?_⟩
 by_cases e:j=i
 ·subst e;omega
 ·have:=cont_bytes h2 (j-i-1) (by simp only at hj2;omega)
  rwa [show i+(j-i-1+1)=j by omega] at this
theorem sz_big (s:ByteArray) (p:Nat) (hz:¬ (szR s p).1=0):(szR s p=(1,byt s p)∧byt s p<128)∨(2≤(szR s p).1∧128≤(szR s p).2∧∀ j,p≤j→j<p+(szR s p).1→128≤byt s j):=by
 unfold szR at hz ⊢
 by_cases c0:byt s p<128
 ·simp only [if_pos c0]
  exact .inl ⟨trivial,c0⟩
 ·right
  simp only [if_neg c0] at hz ⊢
  by_cases c1:194≤byt s p∧byt s p≤223
  ·simp only [if_pos c1] at hz ⊢
   obtain ⟨a,b,c⟩:=szFin_big (by omega) (by omega) hz
   exact ⟨a,by omega,c⟩
  ·simp only [if_neg c1] at hz ⊢
   by_cases c2:224≤byt s p∧byt s p≤239
   ·simp only [if_pos c2] at hz ⊢
    obtain ⟨a,b,c⟩:=szFin_big (by omega) (by omega) hz
    exact ⟨a,by omega,c⟩
   ·simp only [if_neg c2] at hz ⊢
    by_cases c3:240≤byt s p∧byt s p≤244
    ·simp only [if_pos c3] at hz ⊢
     obtain ⟨a,b,c⟩:=szFin_big (by omega) (by omega) hz
     exact ⟨a,by omega,c⟩
    ·simp only [if_neg c3] at hz
     exact absurd trivial hz
theorem quoR_fine (s:ByteArray) (hok:okBytes s):∀ n p,s.size≤p+n→badR s n p<0→quoR s n p=escL (s.data.toList.drop p)
 | 0,p,hp,_=>by
  have hl:s.data.toList.length=s.size:=Array.length_toList ..
  rw [List.drop_eq_nil_of_le (by omega)]
  rfl
 | n+1,p,hp,hb=>by
  have hl:s.data.toList.length=s.size:=Array.length_toList ..
  by_cases h:p<s.size
  ·unfold badR at hb
   rw [if_pos h] at hb
   by_cases hz:(szR s p).1=0
   ·rw [if_pos hz] at hb;omega
   ·rw [if_neg hz] at hb
    have hd:=decode_of_sz s p h
    rw [if_neg hz] at hd
    have hend:=sz_end s p hz h
    have hn:1≤(szR s p).1:=by omega
    have ih:=quoR_fine s hok n (p+(szR s p).1) (by omega) hb
    unfold quoR
    rw [if_pos h,hd]
    simp only
    rw [ih]
    have e:s.data.toList.drop p=pieceL s p (szR s p).1++s.data.toList.drop (p+(szR s p).1):=by
     unfold pieceL
     rw [← List.drop_drop,List.take_append_drop]
    rw [e,escL_append]
    congr 1
    rcases sz_big s p hz with ⟨e1,h1⟩|⟨h2,h3,h4⟩
    ·rw [e1]
     simp only
     rw [pieceL_one h]
     have hbt:(s.get! p).toNat=byt s p:=by unfold byt;rfl
     have ho:=hok p h
     unfold escape1 escL
     simp only [List.flatMap_cons,List.flatMap_nil,List.append_nil,List.length_singleton,List.headD_cons]
     unfold escB
     by_cases hq:byt s p=34∨byt s p=92
     ·rw [if_pos hq,if_pos (hq.imp (fun h=>UInt8.toNat.inj (by rw [hbt,h];rfl)) (fun h=>UInt8.toNat.inj (by rw [hbt,h];rfl)))]
     ·rw [if_neg hq,if_neg (by omega),if_neg (by
       rintro (e|e)
       ·exact hq (.inl (by rw [← hbt,e];rfl))
       ·exact hq (.inr (by rw [← hbt,e];rfl)))]
    ·have hlen:=pieceL_len hend
     unfold escape1
     rw [if_neg (by omega),if_neg (by omega),escL_big fun b hb=>by
      obtain ⟨j,a1,a2,a3,a4⟩:=pieceL_mem hb
      rw [a4];exact h4 j a1 a2]
  ·unfold quoR
   rw [if_neg h,List.drop_eq_nil_of_le (by omega)]
   rfl
abbrev B8L:=List UInt8
def digitN (c:UInt8):Int:=if 48≤c.toNat∧c.toNat≤57 then c.toNat-48 else if 97≤c.toNat∧c.toNat≤102 then c.toNat-87 else -1
def unesc (l:B8L):UInt8×Nat :=
 if l.headD 0=34∨l.headD 0=92 then (l.headD 0,1)
 else if 2<l.length∧l.headD 0=120∧0≤digitN (l.getD 1 0)∧0≤digitN (l.getD 2 0) then (UInt8.ofNat (digitN (l.getD 1 0)*16+digitN (l.getD 2 0)).toNat,3)
 else (0,0)
def unqL:Nat→B8L→Option B8L
 | 0,_=>some []
 | _+1,[]=>some []
 | n+1,c::l=>if c=92 then (if (unesc l).2=0 then none else (unqL n (l.drop (unesc l).2)).map ((unesc l).1 :: ·)) else (unqL n l).map (c :: ·)
theorem unqL_esc:∀ (l:B8L) (n:Nat),l.length≤n→unqL n (escL l)=some l
 | [],0,_=>rfl
 | [],n+1,_=>rfl
 | b::l,n+1,h=>by
  have ih:=unqL_esc l n (by simpa using h)
  show unqL (n+1) (escB b++escL l)=_
  unfold escB
  by_cases hb:b=34∨b=92
  ·rw [if_pos hb]
   have e:unesc (b::escL l)=(b,1):=by
    unfold unesc
    rw [if_pos (by simpa using hb)]
    rfl
   show (if (92:UInt8)=92 then (if (unesc (b::escL l)).2=0 then none else (unqL n ((b::escL l).drop (unesc (b::escL l)).2)).map ((unesc (b::escL l)).1 :: ·)) else _)=_
   rw [if_pos rfl,e,if_neg (by simp)]
   show (unqL n (escL l)).map (b :: ·)=_
   rw [ih]
   rfl
  ·rw [if_neg hb]
   show (if b=92 then _ else (unqL n (escL l)).map (b :: ·))=_
   rw [if_neg (fun e=>hb (.inr e)),ih]
   rfl
def innerL (s:ByteArray):B8L:=(s.data.toList.drop 1).take (s.size-2)
def unquoteB (s:ByteArray):Option ByteArray :=
 if s.size<2 then none else match unqL s.size (innerL s) with
  | none=>none
  | some out=>if quoteB ⟨out.toArray⟩=s then some ⟨out.toArray⟩ else none
def fineB (s:ByteArray):Prop:=okBytes s∧badR s s.size 0<0
theorem quoteB_fine {s:ByteArray}(h:fineB s):quoteB s=⟨(34::(escL s.data.toList++[34])).toArray⟩:=by
 unfold quoteB
 rw [quoR_fine s h.1 s.size 0 (by omega) h.2,List.drop_zero]
theorem escL_len (l:B8L):l.length≤(escL l).length:=by
 induction l with
 | nil=>exact Nat.le_refl _
 | cons b l ih =>
  show _≤(escB b++escL l).length
  rw [List.length_append,List.length_cons]
  have:1≤(escB b).length:=by unfold escB;split<;>simp
  omega
theorem unquote_quote {s:ByteArray}(h:fineB s):unquoteB (quoteB s)=some s:=by
 have e:=quoteB_fine h
 have hsz:(quoteB s).size=(escL s.data.toList).length+2:=by
  rw [e]
  show (List.toArray _).size=_
  simp
 have hin:innerL (quoteB s)=escL s.data.toList:=by
  unfold innerL
  rw [hsz,e]
  show ((34::(escL s.data.toList++[34])).drop 1).take _=_
  rw [List.drop_succ_cons,List.drop_zero,Nat.add_sub_cancel,List.take_left]
 have hb:(⟨s.data.toList.toArray⟩:ByteArray)=s:=by simp
 unfold unquoteB
 rw [if_neg (by omega),hin,unqL_esc _ _ (by rw [hsz];have:=escL_len s.data.toList;omega)]
 simp only [hb,if_true]
def qlen:Nat→B8L→Nat→Nat
 | 0,_,_=>0
 | _+1,[],_=>0
 | n+1,c::l,i=>if c=92 then qlen n (l.drop 1) (i+2) else if c=34 then i+1 else qlen n l (i+1)
theorem qlen_esc (rest:B8L):∀ (l:B8L) (n i:Nat),l.length<n→qlen n (escL l++34::rest) i=i+(escL l).length+1
 | [],n+1,i,_=>by
  show (if (34:UInt8)=92 then _ else if (34:UInt8)=34 then i+1 else _)=_
  rw [if_neg (by decide),if_pos rfl]
  rfl
 | b::l,n+1,i,h=>by
  have ih:=fun i=>qlen_esc rest l n i (by simpa using h)
  show qlen (n+1) ((escB b++escL l)++34::rest) i=i+(escB b++escL l).length+1
  unfold escB
  by_cases hb:b=34∨b=92
  ·rw [if_pos hb]
   show (if (92:UInt8)=92 then qlen n ((b::(escL l++34::rest)).drop 1) (i+2) else _)=_
   rw [if_pos rfl,List.drop_succ_cons,List.drop_zero,ih]
   simp only [List.cons_append,List.nil_append,List.length_cons]
   omega
  ·rw [if_neg hb]
   show (if b=92 then _ else if b=34 then _ else qlen n (escL l++34::rest) (i+1))=_
   rw [if_neg (fun e=>hb (.inr e)),if_neg (fun e=>hb (.inl e)),ih]
   simp only [List.cons_append,List.nil_append,List.length_cons]
   omega
def headL (l:B8L):B8L:=l.takeWhile fun b=>decide (b≠32)
def wordL (l:B8L):Option B8L :=
 if l.headD 0=34 then
  (if (unquoteB ⟨(l.take (qlen l.length (l.drop 1) 1)).toArray⟩).isSome then some (l.take (qlen l.length (l.drop 1) 1)) else none)
 else if (headL l).any (fun b=>decide (b.toNat<32)) then none else if headL l=[] then none else some (headL l)
def wordsL:Nat→B8L→Option (List B8L)
 | 0,_=>none
 | n+1,l=>match wordL l with
  | none=>none
  | some w=>if l.drop w.length=[] then some [w] else if (l.drop w.length).headD 0≠32 then none else (wordsL n ((l.drop w.length).drop 1)).map (w :: ·)
def isWord (w:B8L):Prop:=(∃ s,fineB s∧w=(quoteB s).data.toList)∨(w≠[]∧w.headD 0≠34∧∀ b∈w,32<b.toNat)
theorem wordL_of {w:B8L}(h:isWord w) (rest:B8L) (hr:rest=[]∨rest.headD 0=32):wordL (w++rest)=some w:=by
 rcases h with ⟨s,hs,rfl⟩|⟨h1,h2,h3⟩
 ·have e:(quoteB s).data.toList=34::(escL s.data.toList++[34]):=by rw [quoteB_fine hs]
  have hu:=unquote_quote hs
  rw [e]
  unfold wordL
  have hq:qlen ((34::(escL s.data.toList++[34])++rest).length) ((34::(escL s.data.toList++[34])++rest).drop 1) 1=(escL s.data.toList).length+2:=by
   rw [List.cons_append,List.drop_succ_cons,List.drop_zero,List.append_assoc]
   have:=qlen_esc rest s.data.toList (34::(escL s.data.toList++([34]++rest))).length 1 (by
    have:=escL_len s.data.toList
    simp only [List.length_cons,List.length_append]
    omega)
   rw [show escL s.data.toList++([34]++rest)=escL s.data.toList++34::rest from rfl] at this ⊢
   rw [this]
   omega
  have ht:(34::(escL s.data.toList++[34])++rest).take ((escL s.data.toList).length+2)=34::(escL s.data.toList++[34]):=by
   rw [List.take_append_of_le_length (by simp),List.take_of_length_le (by simp)]
  rw [hq,ht,if_pos (show List.headD (34::(escL s.data.toList++[34])++rest) 0=34 from rfl),if_pos]
  rw [← e]
  have hb:(⟨(quoteB s).data.toList.toArray⟩:ByteArray)=quoteB s:=by simp
  rw [hb,hu]
  rfl
 ·have hh:headL (w++rest)=w:=by
   unfold headL
   rw [List.takeWhile_append_of_pos (fun b hb=>by
    have:=h3 b hb
    refine decide_eq_true (fun e=>?_)
    subst e
    simp at this)]
   rcases hr with rfl|hr
   ·simp
   ·cases rest with
    | nil=>simp
    | cons c r =>
     have:c=32:=hr
     subst this
     simp
  have hd:(w++rest).headD 0=w.headD 0:=by
   cases w with
   | nil=>exact absurd rfl h1
   | cons a w=>rfl
  unfold wordL
  rw [hd,if_neg h2,hh,if_neg,if_neg h1]
  rw [List.any_eq_true]
  rintro ⟨b,hb,h⟩
  have:=h3 b hb
  simp at h
  omega
def joinL:List B8L→B8L
 | [] => []
 | [w]=>w
 | w::ws=>w++32::joinL ws
theorem isWord_ne {w:B8L}(h:isWord w):w≠[]:=by
 rcases h with ⟨s,hs,rfl⟩|⟨h1,-,-⟩
 ·rw [quoteB_fine hs];simp
 ·exact h1
theorem wordsL_join:∀ (ws:List B8L) (n:Nat),ws≠[]→(∀ w∈ws,isWord w)→ws.length≤n→wordsL n (joinL ws)=some ws
 | [],_,h,_,_=>absurd rfl h
 | [w],n+1,_,hw,_=>by
  have h1:=wordL_of (hw w (List.mem_cons_self ..)) [] (.inl rfl)
  rw [List.append_nil] at h1
  have e:joinL [w]=w:=rfl
  unfold wordsL
  rw [e,h1]
  simp
 | w::w2::ws,n+1,_,hw,hn=>by
  have h1:=wordL_of (hw w (List.mem_cons_self ..)) (32::joinL (w2::ws)) (.inr rfl)
  have ih:=wordsL_join (w2::ws) n (by simp) (fun x hx=>hw x (List.mem_cons_of_mem _ hx)) (by simpa using hn)
  have e:joinL (w::w2::ws)=w++32::joinL (w2::ws):=rfl
  unfold wordsL
  rw [e,h1]
  simp only [List.drop_left]
  rw [if_neg (by simp),if_neg (by simp),List.drop_succ_cons,List.drop_zero,ih]
  rfl
theorem u8_dig {d:Nat}(h:d<10):(UInt8.ofNat (48+d)).toNat=48+d:=by
 rw [UInt8.toNat_ofNat']
 omega
theorem decDigits_dig:∀ (u:Nat),∀ b∈Lib.decDigits u,48≤b.toNat∧b.toNat≤57:=by
 intro u
 induction u using Nat.strongRecOn with
 | ind u ih =>
  intro b hb
  rw [Lib.decDigits] at hb
  by_cases h:u<10
  ·rw [dif_pos h] at hb
   have:=List.mem_singleton.1 hb
   subst this
   rw [u8_dig h]
   omega
  ·rw [dif_neg h] at hb
   rcases List.mem_append.1 hb with hb|hb
   ·exact ih (u / 10) (by omega) b hb
   ·have:=List.mem_singleton.1 hb
    subst this
    rw [u8_dig (by omega)]
    omega
theorem decDigits_ne (u:Nat):Lib.decDigits u≠[]:=by
 rw [Lib.decDigits]
 split
 ·simp
 ·simp
theorem parse_digits:∀ (u:Nat),u<9223372036854775808→∀ rest,Lib.parseUint10 0 (Lib.decDigits u++rest)=Lib.parseUint10 u rest:=by
 intro u
 induction u using Nat.strongRecOn with
 | ind u ih =>
  intro hu rest
  rw [Lib.decDigits]
  by_cases h:u<10
  ·rw [dif_pos h]
   show Lib.parseUint10 0 (UInt8.ofNat (48+u)::rest)=_
   rw [Lib.parseUint10,u8_dig h,if_pos (by omega),if_neg (by omega),if_neg (by omega)]
   congr 1
   omega
  ·rw [dif_neg h,List.append_assoc,ih (u / 10) (by omega) (by omega)]
   show Lib.parseUint10 (u / 10) (UInt8.ofNat (48+u % 10)::rest)=_
   rw [Lib.parseUint10,u8_dig (by omega),if_pos (by omega),if_neg (by omega),if_neg (by omega)]
   congr 1
   omega
theorem atoi_digits {u:Nat}(hu:u<9223372036854775808):Lib.atoiAll (Lib.decDigits u)=.ok (u:Int):=by
 have hp:=parse_digits u hu []
 rw [List.append_nil] at hp
 have hm:Lib.parseMag (Lib.decDigits u)=.ok u:=by
  unfold Lib.parseMag
  rw [if_neg (decDigits_ne u),hp]
  rfl
 obtain ⟨c,r,e⟩:∃ c r,Lib.decDigits u=c::r:=by
  cases h:Lib.decDigits u with
  | nil=>exact absurd h (decDigits_ne u)
  | cons c r=>exact ⟨c,r,rfl⟩
 have hc:=decDigits_dig u c (by rw [e];exact List.mem_cons_self ..)
 rw [e] at hm ⊢
 rw [Lib.atoiAll_plain c r (by omega) (by omega),hm]
 show (if 9223372036854775808≤u then _ else _)=_
 rw [if_neg (by omega)]
theorem isWord_digits (u:Nat):isWord (Lib.decDigits u):=by
 refine .inr ⟨decDigits_ne u,?_,fun b hb=>by have:=decDigits_dig u b hb;omega⟩
 obtain ⟨c,r,e⟩:∃ c r,Lib.decDigits u=c::r:=by
  cases h:Lib.decDigits u with
  | nil=>exact absurd h (decDigits_ne u)
  | cons c r=>exact ⟨c,r,rfl⟩
 have hc:=decDigits_dig u c (by rw [e];exact List.mem_cons_self ..)
 rw [e]
 intro h
 have:c=34:=h
 subst this
 simp at hc
theorem decDigits_len:∀ (k u:Nat),u<10 ^ (k+1)→(Lib.decDigits u).length≤k+1
 | 0,u,h=>by
  rw [Lib.decDigits,dif_pos (by omega)]
  exact Nat.le_refl _
 | k+1,u,h=>by
  rw [Lib.decDigits]
  by_cases h9:u<10
  ·rw [dif_pos h9];simp
  ·rw [dif_neg h9,List.length_append]
   have:=decDigits_len k (u / 10) (by rw [Nat.pow_succ] at h;omega)
   simpa using this
def numB (n:Nat):ByteArray:=⟨(Lib.decDigits n).toArray⟩
theorem numB_list (n:Nat):(numB n).data.toList=Lib.decDigits n:=rfl
theorem numB_size (n:Nat):(numB n).size=(Lib.decDigits n).length:=by
 show Array.size _=_
 rw [List.size_toArray]
theorem itoa_nat {n:Int}(h:0≤n):Lib.itoa n=Lib.decDigits n.toNat:=by
 unfold Lib.itoa
 rw [if_neg (by omega)]
attribute [local semireducible] Vc Con PureOp ReadOp MoveOp
section
variable {P:Program}{ty t ts:TypeId}{σ:Env}{G:GH}{μ ν μr:OH}
theorem m_appendS {e:TypeId}{s x:Operand}{v:Value}{u:ByteArray}{m:Nat}{xs:List Value} [Ty P t (.slice e)] [Ty P ts .string] [Lay P e false 1 1 (.int .u8 0)] (hs:Env.ev σ s=some v) (hx:Env.ev σ x=some (.string u)) (hg:Grow e 1 v m xs ν) (hp:μ.Perm (ν++μr)) (hb:m+u.size≤16777216) :
 MoveOp P (.call { callee:=.builtin .append,args:=#[s,x],argTypes:=#[t,ts] }) ty σ G μ (fun v' G' μ'=>∃ ν',Grow e 1 v' (m+u.size) (xs++Lib.strCells u) ν'∧G'=G∧μ'=ν'++μr):=by
 intro dst pos af g ρ hρ w hw a K Q hK
 have hw':=hw.perm hp
 obtain ⟨i,hi,hi1,hi2,hi3⟩:=Lay.infoEx (P:=P) (t:=e) (agg:=false) (size:=1) (bytes:=1) (zero:=.int .u8 0) inferInstance
 have ht:P.underlying t=some (.slice e):=Ty.h
 have hts:P.underlying ts=some .string:=Ty.h
 have hb':m+u.size≤maxLen:=by simp only [maxLen];omega
 have hus:=Lib.strCells_length u
 obtain ⟨hl,hg⟩:=hg
 have hex:∀ (r:Result Value),(Builtin.append_ #[t,ts] ty #[v,.string u]).run P w=r→(execOp ρ ⟨dst,.call { callee:=.builtin .append,args:=#[s,x],argTypes:=#[t,ts] },ty,pos,af,g⟩).run P w=r.andThen fun v w'=>.ok (.value v) w':=by
  intro r hr
  subst hr
  simp only [execOp,resolve,invoke,builtin,Sem.run_bind,Sem.run_pure,Result.andThen_ok,List.map_toArray,List.map_cons,List.map_nil,hρ _ _ hs,hρ _ _ hx]
 have hrow:∀ (old:Nat),old<m+u.size→Grow e 1 (.slice (some ⟨w.heap.size,0,none⟩) (m+u.size) (grownCap w (m+u.size) old e)) (m+u.size) (xs++Lib.strCells u) [(w.heap.size,.cells (xs++Lib.strCells u++(Builtin.zeroCells (Value.int .u8 0).cells (grownCap w (m+u.size) old e-(m+u.size))).toList).toArray e (0,0))]:=by
  intro old ho
  have hge:=grownCap_ge w (m+u.size) old e
  refine ⟨by rw [List.length_append,hl,hus,Nat.add_mul,Nat.mul_one,Nat.mul_one],.inr ⟨_,_,_,rfl,rfl,hge,grownCap_le_maxLen w (m+u.size) old e hb',?_⟩⟩
  have hz1:(Value.int IntKind.u8 0).cells.size=1:=rfl
  simp only [List.length_append,hl,hus,Array.length_toList,size_zeroCells,hz1]
  omega
 rcases hg with ⟨rfl,rfl,rfl⟩|⟨b,cap,spare,rfl,rfl,hc1,hc2,hc3⟩
 ·have hx0:xs=[]:=List.eq_nil_of_length_eq_zero (by simpa using hl)
  subst hx0
  by_cases hm:u.size=0
  ·have hn:Lib.strCells u=[]:=List.eq_nil_of_length_eq_zero (by rw [hus];exact hm)
   have hf:=Lib.run_firstCells_string (P:=P) w 1 u
   rw [hm] at hf
   have hr:(Builtin.append_ #[t,ts] ty #[.slice none 0 0,.string u]).run P w=.ok (.slice none 0 0) w:=by
    simp [Builtin.append_,run_underlying ht,run_underlying hts,sizeOf,typeInfo,hi,hi1,Builtin.lenOf,hm,hf]
   rw [hex _ hr]
   exact hK _ w G μr ((Step.refl hw').permL hp.symm) ⟨[],(by rw [hn,hm];exact Grow.nil e 1),rfl,rfl⟩
  ·have hr:=run_append_nil_string (P:=P) w t ts ty e i (.int .u8 0) ht hts hi hi3 u (by omega) (by omega) (by rw [hi2];omega)
   have e1:(u.data.map fun b=>Value.int .u8 b.toNat)=(Lib.strCells u).toArray:=by
    apply Array.ext'
    simp [Lib.strCells]
   rw [e1] at hr
   rw [hex _ hr]
   have hrow':=hrow 0 (by omega)
   simp only [Nat.zero_add,List.nil_append] at hrow' ⊢
   have hst:=(Step.drew hw' 1).trans (Step.alloc (Step.drew hw' 1).mem (.cells ((Lib.strCells u).toArray++Builtin.zeroCells (Value.int .u8 0).cells (grownCap w u.size 0 e-u.size)) e (0,0)))
   refine hK _ _ G _ (hst.permL hp.symm) ⟨[(w.heap.size,.cells (Lib.strCells u++(Builtin.zeroCells (Value.int .u8 0).cells (grownCap w u.size 0 e-u.size)).toList).toArray e (0,0))],(by rw [Nat.zero_add,List.nil_append];exact hrow'),rfl,?_⟩
   simp [World.drewN]
 ·have hblk:w.heap[b]? = some (.cells (xs++spare).toArray e (0,0)):=hw'.own b _ (by simp)
  by_cases hroom:m+u.size≤cap
  ·have hr:=Lib.run_append_room_string (P:=P) w t ts ty e i ht hts hi hi1 b m cap (xs++spare).toArray hblk u hroom (by rw [List.size_toArray,hc3];omega)
   rw [hex _ hr]
   have hxm:xs.length=m:=by simpa using hl
   have htake:((xs++spare).toArray.toList.take m++Lib.strCells u++(xs++spare).toArray.toList.drop (m+u.size))=xs++Lib.strCells u++spare.drop u.size:=by
    rw [← hxm]
    simp only [List.take_left]
    congr 1
    rw [← List.drop_drop,List.drop_left]
   rw [htake]
   have hst:Step G ([(b,.cells (xs++spare).toArray e (0,0))]++μr) w G ([(b,.cells (xs++Lib.strCells u++spare.drop u.size).toArray e (0,0))]++μr) (w.setRow b (xs++Lib.strCells u++spare.drop u.size).toArray) :=
    Step.row hw' (b:=b) (vs:=xs++spare) (by simp [Has]) (.here _ _)
   refine hK _ _ G _ (hst.permL hp.symm) ⟨[(b,.cells (xs++Lib.strCells u++spare.drop u.size).toArray e (0,0))],⟨by rw [List.length_append,hl,hus,Nat.add_mul,Nat.mul_one,Nat.mul_one],.inr ⟨b,cap,spare.drop u.size,rfl,rfl,hroom,hc2,?_⟩⟩,rfl,rfl⟩
   simp only [List.length_append,List.length_drop,hl,hus] at hc3 ⊢
   omega
  ·have holds:∀ j u,xs[j]? = some u→w.cell? ((⟨b,0,none⟩:Addr).add j)=some u:=by
    intro j u hu
    have hj:j<xs.length:=(List.getElem?_eq_some_iff.1 hu).1
    rw [add_mk,Nat.zero_add]
    unfold World.cell?
    simp only [hblk]
    simp only [Option.isSome_none,Bool.false_eq_true,if_false,List.getElem?_toArray]
    rw [List.getElem?_append_left hj]
    exact hu
   have hr:=Lib.run_append_grow_string (P:=P) w t ts ty e i (.int .u8 0) ht hts hi hi3 ⟨b,0,none⟩ m cap xs (by rw [hl,hi1]) holds u (by omega) (by omega) (growslice_fits (by omega) (by rw [hi2];omega))
   rw [hex _ hr]
   have hrow':=hrow cap (by omega)
   have hst:=(Step.drew hw' 1).trans (Step.alloc (Step.drew hw' 1).mem (.cells (xs.toArray++(Lib.strCells u).toArray++Builtin.zeroCells (Value.int .u8 0).cells (grownCap w (m+u.size) cap e-(m+u.size))) e (0,0)))
   have hst2:Step G ([(b,.cells (xs++spare).toArray e (0,0))]++μr) w G ((w.heap.size,.cells (xs.toArray++(Lib.strCells u).toArray++Builtin.zeroCells (Value.int .u8 0).cells (grownCap w (m+u.size) cap e-(m+u.size))) e (0,0))::μr) _ :=
    hst.drop (List.Sublist.cons_cons _ (List.Sublist.cons _ (List.Sublist.refl _)))
   refine hK _ _ G _ (hst2.permL hp.symm) ⟨_,hrow',rfl,?_⟩
   simp
theorem r_toUnsafe {src dst' u e:TypeId}{agg:Bool}{sz bytes:Nat}{zero:Value}{x:Operand}{b:Nat}{vs:List Value}(h1:P.underlying src=some (.pointer u)) (h2:P.underlying dst'=some .unsafePointer) [Lay P u agg sz bytes zero] (hsz:sz≠0) (hx:Env.ev σ x=some (.pointer (some ⟨b,0,none⟩))) (hb:Has μ b vs e) (h0:0<vs.length) :
 ReadOp P (.convert src dst' x) ty σ G μ (.pointer (some ⟨b,0,none⟩)):=by
 intro dst pos af g ρ hρ w hw
 obtain ⟨i,hi,hi1,-,-⟩:=Lay.infoEx (P:=P) (t:=u) (agg:=agg) (size:=sz) (bytes:=bytes) (zero:=zero) inferInstance
 have hbk:=hw.own _ _ hb
 have:=Lib.run_to_unsafe (P:=P) w ⟨b,0,none⟩ h1 h2 hi (by rw [hi1];exact hsz) (e:=e) (cells:=vs.length) (by simp [World.shape?,hbk]) h0
 simp [execOp,hρ _ _ hx,this]
theorem r_fromUnsafe {src dst' u e:TypeId}{agg:Bool}{sz bytes n:Nat}{zero:Value}{x:Operand}{b:Nat}{vs:List Value}(h1:P.underlying src=some .unsafePointer) (h2:P.underlying dst'=some (.pointer u)) [Lay P u agg sz bytes zero] (hx:Env.ev σ x=some (.pointer (some ⟨b,0,none⟩))) (hb:Has μ b vs e) (hn:vs.length=n) (hl:liesAt P P.depth e (n / P.cellsOf e) 0 u 1=true) :
 ReadOp P (.convert src dst' x) ty σ G μ (.pointer (some ⟨b,0,none⟩)):=by
 intro dst pos af g ρ hρ w hw
 obtain ⟨i,hi,hi1,-,-⟩:=Lay.infoEx (P:=P) (t:=u) (agg:=agg) (size:=sz) (bytes:=bytes) (zero:=zero) inferInstance
 have hbk:=hw.own _ _ hb
 have:=Lib.run_from_unsafe (P:=P) w ⟨b,0,none⟩ h1 h2 hi (e:=e) (cells:=n) (by simp [World.shape?,hbk,hn]) hl
 simp [execOp,hρ _ _ hx,this]
theorem p_nePtrs {x y:Operand}{a:Addr}{t' u:TypeId}{agg:Bool}{sz bytes:Nat}{zero:Value}[hT:Ty P t (.pointer u)] [Lay P u agg sz bytes zero] (hx:Env.ev σ x=some (.pointer (some a))) (hy:Env.ev σ y=some (.pointer (some a))):PureOp P (.binOp .neq t x y t') ty σ (.bool false):=by
 obtain ⟨i,hi,hi1,-,-⟩:=Lay.infoEx (P:=P) (t:=u) (agg:=agg) (size:=sz) (bytes:=bytes) (zero:=zero) inferInstance
 exact p_neV hx hy (b:=false) fun w=>by
  have:=Lib.run_neq_ptr_same (P:=P) w a hT.h hi
  simp [eqGuard,this]
theorem Step.out {w w':World}{b:Nat}{o:Obj}(hw:Mem G ((b,o)::μr) w) (hs:w'.heap.size=w.heap.size) (h:∀ k,k≠b→w'.heap[k]? = w.heap[k]?) (h1:w'.os=w.os) (h2:w'.tape=w.tape) (h3:w'.output=w.output):Step G ((b,o)::μr) w G μr w' where
 mem:=by
  have hn:=hw.nodup
  rw [List.map_cons,List.nodup_cons] at hn
  refine ⟨fun k o' hk=>?_,fun k o' hk=>?_,hn.2,fun k o' hk=>hw.apart k o' (List.mem_cons_of_mem _ hk)⟩
  ·rw [h k (by rintro rfl;have:=hw.apart k o (by simp);rw [this] at hk;cases hk)]
   exact hw.g k o' hk
  ·rw [h k (by rintro rfl;exact hn.1 (List.mem_map.2 ⟨_,hk,rfl⟩))]
   exact hw.own k o' (List.mem_cons_of_mem _ hk)
 le:=GH.le_refl _
 os:=h1
 tape:=h2
 output:=h3
 size:=by omega
 same:=fun k _ hk=>h k (by rintro rfl;exact hk o (by simp))
 mine:=fun k o' hk=>.inl ⟨o',List.mem_cons_of_mem _ hk⟩
 ours:=fun k o' hk=>.inl ⟨o',hk⟩
theorem m_unsafeStr {pt it e:TypeId}{x y:Operand}{b:Nat}{u:ByteArray}{spare:List Value}(hT:P.underlying pt=some (.pointer e)) (hc:P.cellsOf e=1) (hx:Env.ev σ x=some (.pointer (some ⟨b,0,none⟩))) (hy:Env.ev σ y=some (.int .i64 u.size)) (h0:0<u.size) (hm:u.size≤16777216) (hp:μ.Perm ((b,.cells (Lib.strCells u++spare).toArray e (0,0))::μr)) :
 MoveOp P (.call { callee:=.builtin .unsafeString,args:=#[x,y],argTypes:=#[pt,it] }) ty σ G μ (fun v G' μ'=>v=.string u∧G'=G∧μ'=μr):=by
 intro dst pos af g ρ hρ w hw a K Q hK
 have hw':=hw.perm hp
 have hbk:=hw'.own b _ (List.mem_cons_self ..)
 have hlen:=Lib.strCells_length u
 have hl:u.data.toList.length=u.size:=by rw [Array.length_toList];rfl
 have hr:=Lib.run_unsafeString_row (P:=P) w pt it ty e hT hc b (Lib.strCells u++spare).length (by simp [World.shape?,hbk]) u.data.toList (by intro h;rw [h] at hl;simp at hl;omega) (by rw [hl,List.length_append,hlen];omega) (by rw [hl];omega) (fun j z hz=>by
  have hj:j<u.data.toList.length:=(List.getElem?_eq_some_iff.1 hz).1
  rw [add_mk,Nat.zero_add]
  unfold World.cell?
  simp only [hbk]
  simp only [Option.isSome_none,Bool.false_eq_true,if_false,List.getElem?_toArray]
  rw [List.getElem?_append_left (by rw [hlen,← hl];exact hj)]
  unfold Lib.strCells
  rw [List.getElem?_map,hz]
  rfl)
 rw [hl] at hr
 have hex:(execOp ρ ⟨dst,.call { callee:=.builtin .unsafeString,args:=#[x,y],argTypes:=#[pt,it] },ty,pos,af,g⟩).run P w=.ok (.value (.string u)) (w.freeze ⟨b,0,none⟩ u.size):=by
  simp only [execOp,resolve,invoke,builtin,Sem.run_bind,Sem.run_pure,Result.andThen_ok,List.map_toArray,List.map_cons,List.map_nil,hρ _ _ hx,hρ _ _ hy,hr]
 rw [hex]
 refine hK _ _ G μr (Step.permL (Step.out hw' ?_ ?_ ?_ ?_ ?_) hp.symm) ⟨rfl,rfl,rfl⟩
 all_goals unfold World.freeze
 all_goals rw [if_neg (by omega)]
 ·simp
 ·intro k hk
  simp only [Array.getElem?_modify]
  rw [if_neg (by omega)]
 all_goals rfl
end
end Go.Proofs.YtnncjoooaknlmaaGreatDoor
/-
  strings.Builder's functions: copyCheck, WriteByte, WriteString, String.
-/
namespace Go.Proofs.YtnncjoooaknlmaaGreatDoor
open Go.Vx Go.ChangeShapes Go.WideShapes Go.ChangeAt Go.RowKit
structure Bld (b:Nat) (u:ByteArray) (p v:Value) (ν:OH):Prop where
 p:p=.pointer none∨p=.pointer (some ⟨b,0,none⟩)
 g:Grow 5 1 v u.size (Lib.strCells u) ν
def bldO (p v:Value):Obj:=.cells [p,v].toArray 88 (0,0)
theorem bld_nil (b:Nat):Bld b .empty (.pointer none) (.slice none 0 0) []:=⟨.inl rfl,Grow.nil _ 1⟩
theorem noEscape_run (x:Value) (w:World):(callFunc 119 #[x]).run Tryz.prog w=.ok (.value x) w:=by
 rw [run_callFunc_extern Tryz.func119 rfl rfl rfl rfl]
 rfl
section
attribute [local semireducible] ReadOp
theorem r_noEscape {ty:TypeId}{σ:Env}{G:GH}{μ:OH}{x:Operand}{v:Value}{ts:Array TypeId}(hx:Env.ev σ x=some v):ReadOp Tryz.prog (.call { callee:=.value (.func 119),args:=#[x],argTypes:=ts }) ty σ G μ v:=by
 intro dst pos af g ρ hρ w hw
 have hf:ρ (.func 119)=.func (.func 119) #[] #[]:=hρ _ _ rfl
 simp [execOp,resolve,hf,Deferred.ofValue,invoke,hρ _ _ hx,noEscape_run]
end
theorem copyCheck_s {G:GH}{b:Nat}{u:ByteArray}{p v:Value}{ν:OH}(hb:Bld b u p v ν):Con Tryz.prog 77 #[.pointer (some ⟨b,0,none⟩)] G [(b,bldO p v)]
 (fun _ G' μ'=>G'=G∧μ'=[(b,bldO (.pointer (some ⟨b,0,none⟩)) v)]):=by
 have hp:=hb.p
 clear hb
 unfold bldO
 (refine v_enter Tryz.func77 rfl Tryz.ntmps77 rfl ?_;intro B _)
 rcases hp with rfl|rfl
 ·repeat' (first|refine Wa ?_|(refine Wc ⟨?_,?_⟩<;>first|intro h|exact ⟨⟩)|apply v_read;(case hop=>apply r_toUnsafe (u:=88) (e:=88) Tryz.underlying85 Tryz.underlying201 (by decide) rfl (List.Mem.head _) (by simp));(case hd=>rfl)|apply v_read;(case hop=>apply r_noEscape rfl);(case hd=>rfl)|apply v_read;(case hop=>apply r_fromUnsafe (n:=2) (u:=88) (e:=88) Tryz.underlying201 Tryz.underlying85 rfl (List.Mem.head _) rfl (by kernel_rfl));(case hd=>rfl)|refine Wr ?_|fail)
  refine v_end [(b,_)] (outsA0 rfl) sS ?_
  exact ⟨rfl,rfl⟩
 ·repeat' (first|refine Wa ?_|(refine Wc ⟨?_,?_⟩<;>first|intro h|exact ⟨⟩)|apply v_pure;(case hop=>apply p_nePtrs (u:=88) rfl rfl);(case hd=>rfl)|refine Wr ?_|fail)
  refine v_end [(b,_)] (outsA0 rfl) sS ?_
  exact ⟨rfl,rfl⟩
theorem strCells_append (x y:ByteArray):Lib.strCells (x++y)=Lib.strCells x++Lib.strCells y:=by
 unfold Lib.strCells
 simp
theorem strCells_push (x:ByteArray) (c:UInt8):Lib.strCells (x.push c)=Lib.strCells x++[.int .u8 c.toNat]:=by
 unfold Lib.strCells
 simp [ByteArray.push]
theorem p_sliceData {P:Program}{ty:TypeId}{σ:Env}{x:Operand}{a:Addr}{l c:Nat}{ts:Array TypeId}(hx:Env.ev σ x=some (.slice (some a) l c)) (hc:c≠0):Go.Vx.PureOp P (.call { callee:=.builtin .unsafeSliceData,args:=#[x],argTypes:=ts }) ty σ (.pointer (some a)):=by
 unfold Go.Vx.PureOp
 intro dst pos af g ρ hρ w
 have hr:=Lib.run_unsafeSliceData_row (P:=P) w ts ty a l c hc
 simp only [execOp,resolve,invoke,builtin,Sem.run_bind,Sem.run_pure,Result.andThen_ok,List.map_toArray,List.map_cons,List.map_nil,hρ _ _ hx,hr]
theorem writeS_s {G:GH}{b:Nat}{u s:ByteArray}{p v:Value}{ν:OH}(hb:Bld b u p v ν) (hn:u.size+s.size≤16777216):Con Tryz.prog 40 #[.pointer (some ⟨b,0,none⟩),.string s] G ((b,bldO p v)::ν)
 (fun r G' μ'=>G'=G∧∃ p' v' ν',Bld b (u++s) p' v' ν'∧μ'=(b,bldO p' v')::ν'):=by
 have qc:=copyCheck_s (G:=G) hb
 have hg:=hb.g
 unfold bldO at qc ⊢
 obtain ⟨A,c,rfl,-,-⟩:=hg.shape
 (refine v_enter Tryz.func40 rfl Tryz.ntmps40 rfl ?_;intro B _)
 repeat' (first|refine Wa ?_|(refine Wc ⟨?_,?_⟩<;>first|intro h|exact ⟨⟩)|apply v_call (hs:=qc) (μ2:=ν);(case ha=>rfl);(case hp=>exact List.Perm.refl _);(case hd=>rfl);rintro _ _ _ hle ⟨rfl,rfl⟩|refine Wr ?_|fail)
 refine v_move (m_appendS (μr:=[(b,_)]) rfl rfl hg List.perm_append_comm hn) rfl ?_
 rintro v' _ _ ⟨ν',hg',rfl,rfl⟩
 obtain ⟨A',c',rfl,-,-⟩:=hg'.shape
 repeat' (first|refine Wa ?_|(refine Wc ⟨?_,?_⟩<;>first|intro h|exact ⟨⟩)|refine Wr ?_|fail)
 refine v_perm List.perm_append_comm ?_
 refine v_ret ((b,_)::ν') (outsA2 rfl rfl rfl) (List.Sublist.refl _) ?_
 exact ⟨rfl,_,_,ν',⟨.inr rfl,by rw [strCells_append,ByteArray.size_append];exact hg'⟩,rfl⟩
theorem writeB_s {G:GH}{b:Nat}{u:ByteArray}{c:UInt8}{p v:Value}{ν:OH}(hb:Bld b u p v ν) (hn:u.size+1≤16777216):Con Tryz.prog 109 #[.pointer (some ⟨b,0,none⟩),.int .u8 c.toNat] G ((b,bldO p v)::ν)
 (fun r G' μ'=>G'=G∧∃ p' v' ν',Bld b (u.push c) p' v' ν'∧μ'=(b,bldO p' v')::ν'):=by
 have qc:=copyCheck_s (G:=G) hb
 have hg:=hb.g
 unfold bldO at qc ⊢
 obtain ⟨A,cc,rfl,-,-⟩:=hg.shape
 (refine v_enter Tryz.func109 rfl Tryz.ntmps109 rfl ?_;intro B _)
 repeat' (first|refine Wa ?_|(refine Wc ⟨?_,?_⟩<;>first|intro h|exact ⟨⟩)|apply v_call (hs:=qc) (μ2:=ν);(case ha=>rfl);(case hp=>exact List.Perm.refl _);(case hd=>rfl);rintro _ _ _ hle ⟨rfl,rfl⟩|(refine Wd 13 ?_;intro b13)|refine Wr ?_|(refine Wb ?_;intro b)|fail)
 apply v_append (hg:=hg) (m':=1) (us:=[.int .u8 c.toNat]) (μr:=[(b13,.cells [Value.int .u8 c.toNat].toArray 5 (0,0)),(b,.cells [Value.pointer (some ⟨b,0,none⟩),.slice A u.size cc].toArray 88 (0,0))]) (hp:=aV) (hsrc:=Src.own (e:=5) (b:=b13) (List.Mem.head _) rfl)
 case hzs=>rfl
 case hsz=>omega
 case hs=>rfl
 case hx=>rfl
 case hb=>omega
 case hb'=>simp only [maxLen];omega
 case hd=>rfl
 case h1=>rfl
 intro v' ν' hg'
 obtain ⟨A',c',rfl,-,-⟩:=hg'.shape
 repeat' (first|refine Wa ?_|(refine Wc ⟨?_,?_⟩<;>first|intro h|exact ⟨⟩)|refine Wr ?_|(refine Wb ?_;intro b)|fail)
 refine v_perm List.perm_append_comm ?_
 refine v_ret ((b,_)::ν') (outsA1 rfl rfl) (List.Sublist.cons _ (List.Sublist.refl _)) ?_
 exact ⟨rfl,_,_,ν',⟨.inr rfl,by rw [strCells_push,ByteArray.size_push];exact hg'⟩,rfl⟩
theorem string_s {G:GH}{b:Nat}{u:ByteArray}{p v:Value}{ν:OH}(hb:Bld b u p v ν) (h0:0<u.size) (hn:u.size≤16777216):Con Tryz.prog 43 #[.pointer (some ⟨b,0,none⟩)] G ((b,bldO p v)::ν) (Just (.string u) G):=by
 obtain ⟨-,hg⟩:=hb.g
 rcases hg with ⟨-,h,-⟩|⟨d,cap,spare,rfl,rfl,hc,hm,-⟩
 ·omega
 unfold bldO
 (refine v_enter Tryz.func43 rfl Tryz.ntmps43 rfl ?_;intro B _)
 repeat' (first|refine Wa ?_|(refine Wc ⟨?_,?_⟩<;>first|intro h|exact ⟨⟩)|refine Wr ?_|fail)
 refine Dz [(b,.cells [p,.slice (some ⟨d,0,none⟩) u.size cap].toArray 88 (0,0))] ?_
 all_goals refine Dt [0,1,2,3,5,6,7,8,9] ?_
 all_goals (first|apply d_keep 4 (hop:=ReadOp.move ?hop);(case hi=>rfl);(case hr=>kernel_rfl);(case hop=>(apply PureOp.read;exact p_sliceData rfl (by omega)));(case hd=>rfl)|((apply d_exec 4;(case hi=>rfl);(case hr=>kernel_rfl);(case hop=>exact m_unsafeStr (u:=u) (spare:=spare) (μr:=[(b,_)]) Tryz.underlying153 (by kernel_rfl) rfl rfl h0 hn (List.Perm.swap _ _ _));(case hd=>rfl);rintro _ _ _ ⟨rfl,rfl,rfl⟩;refine ⟨aE,?_⟩))|fail)
 all_goals (first|apply d_keep 10 (hop:=ReadOp.move ?hop);(case hi=>rfl);(case hr=>kernel_rfl);(case hop=>(apply PureOp.read;exact p_sliceData rfl (by omega)));(case hd=>rfl)|((apply d_exec 10;(case hi=>rfl);(case hr=>kernel_rfl);(case hop=>exact m_unsafeStr (u:=u) (spare:=spare) (μr:=[(b,_)]) Tryz.underlying153 (by kernel_rfl) rfl rfl h0 hn (List.Perm.swap _ _ _));(case hd=>rfl);rintro _ _ _ ⟨rfl,rfl,rfl⟩;refine ⟨aE,?_⟩))|fail)
 all_goals refine Dt [11] ?_
 all_goals refine Dd ?_
 repeat' (first|refine Wa ?_|(refine Wc ⟨?_,?_⟩<;>first|intro h|exact ⟨⟩)|refine Wr ?_|fail)
 refine Vr ?_
 exact ⟨rfl,rfl,rfl⟩
end Go.Proofs.YtnncjoooaknlmaaGreatDoor
/-
  The library's Itoa, Atoi and Join, at any number and any text.
-/
namespace Go.Proofs.YtnncjoooaknlmaaGreatDoor
open Go.Vx Go.ChangeShapes Go.WideShapes Go.ChangeAt Go.RowKit
def laysJoin_ren:Go.Shelf.Ren:=⟨fun|156=>103|165=>142|166=>40|169=>43|240=>77|241=>169|276=>119|277=>197|n=>n,fun|0=>0|3=>3|4=>4|5=>5|9=>9|20=>20|31=>23|37=>86|70=>85|72=>88|75=>51|76=>52|80=>97|127=>153|164=>201|n=>n,fun n=>n⟩
theorem laysJoin:Lays.n156 Tryz.prog laysJoin_ren where
 mixed:=by kernel_rfl
 f156:=Tryz.func103.trans (congrArg some (by kernel_rfl))
 f165:=Tryz.func142.trans (congrArg some (by kernel_rfl))
 f166:=Tryz.func40.trans (congrArg some (by kernel_rfl))
 f169:=Tryz.func43.trans (congrArg some (by kernel_rfl))
 f240:=Tryz.func77.trans (congrArg some (by kernel_rfl))
 f241:=Tryz.func169.trans (congrArg some (by kernel_rfl))
 f276:=Tryz.func119.trans (congrArg some (by kernel_rfl))
 f277:=Tryz.func197.trans (congrArg some (by kernel_rfl))
 t0:=Tryz.underlying0
 a0:=Tryz.isAgg0
 z0:=Tryz.sizeOf0
 v0:=Tryz.zeroValue0
 t3:=Tryz.underlying3
 a3:=Tryz.isAgg3
 z3:=Tryz.sizeOf3
 v3:=Tryz.zeroValue3
 t4:=Tryz.underlying4
 a4:=Tryz.isAgg4
 z4:=Tryz.sizeOf4
 v4:=Tryz.zeroValue4
 t9:=Tryz.underlying9
 a9:=Tryz.isAgg9
 z9:=Tryz.sizeOf9
 v9:=Tryz.zeroValue9
 t20:=Tryz.underlying20
 a20:=Tryz.isAgg20
 z20:=Tryz.sizeOf20
 v20:=Tryz.zeroValue20
 t31:=Tryz.underlying23
 a31:=Tryz.isAgg23
 z31:=Tryz.sizeOf23
 v31:=Tryz.zeroValue23
 t37:=Tryz.underlying86
 a37:=Tryz.isAgg86
 z37:=Tryz.sizeOf86
 v37:=Tryz.zeroValue86
 t70:=Tryz.underlying85
 a70:=Tryz.isAgg85
 z70:=Tryz.sizeOf85
 v70:=Tryz.zeroValue85
 t72:=Tryz.underlying88
 a72:=Tryz.isAgg88
 z72:=Tryz.sizeOf88
 v72:=Tryz.zeroValue88
 t75:=Tryz.underlying51
 a75:=Tryz.isAgg51
 z75:=Tryz.sizeOf51
 v75:=Tryz.zeroValue51
 t76:=Tryz.underlying52
 a76:=Tryz.isAgg52
 z76:=Tryz.sizeOf52
 v76:=Tryz.zeroValue52
 t127:=Tryz.underlying153
 a127:=Tryz.isAgg153
 z127:=Tryz.sizeOf153
 v127:=Tryz.zeroValue153
 t164:=Tryz.underlying201
 a164:=Tryz.isAgg201
 z164:=Tryz.sizeOf201
 v164:=Tryz.zeroValue201
def laysItoa_ren:Go.Shelf.Ren:=⟨fun|129=>165|171=>27|243=>61|246=>102|283=>138|284=>139|285=>140|286=>141|317=>164|318=>166|319=>167|320=>168|337=>195|338=>196|n=>n,fun|0=>0|2=>2|3=>3|4=>4|5=>5|9=>9|20=>20|37=>86|46=>205|51=>95|53=>151|171=>217|173=>220|212=>255|213=>256|232=>317|233=>318|n=>n,fun|17=>4|18=>7|19=>8|n=>n⟩
theorem laysItoa:LaysM.n171 Tryz.prog laysItoa_ren where
 mixed:=by kernel_rfl
 f129:=Tryz.func165.trans (congrArg some (by kernel_rfl))
 f171:=Tryz.func27.trans (congrArg some (by kernel_rfl))
 f243:=Tryz.func61.trans (congrArg some (by kernel_rfl))
 f246:=Tryz.func102.trans (congrArg some (by kernel_rfl))
 f283:=Tryz.func138.trans (congrArg some (by kernel_rfl))
 f284:=Tryz.func139.trans (congrArg some (by kernel_rfl))
 f285:=Tryz.func140.trans (congrArg some (by kernel_rfl))
 f286:=Tryz.func141.trans (congrArg some (by kernel_rfl))
 f317:=Tryz.func164.trans (congrArg some (by kernel_rfl))
 f318:=Tryz.func166.trans (congrArg some (by kernel_rfl))
 f319:=Tryz.func167.trans (congrArg some (by kernel_rfl))
 f320:=Tryz.func168.trans (congrArg some (by kernel_rfl))
 f337:=Tryz.func195.trans (congrArg some (by kernel_rfl))
 f338:=Tryz.func196.trans (congrArg some (by kernel_rfl))
 t0:=Tryz.underlying0
 a0:=Tryz.isAgg0
 z0:=Tryz.sizeOf0
 v0:=Tryz.zeroValue0
 t2:=Tryz.underlying2
 a2:=Tryz.isAgg2
 z2:=Tryz.sizeOf2
 v2:=Tryz.zeroValue2
 t3:=Tryz.underlying3
 a3:=Tryz.isAgg3
 z3:=Tryz.sizeOf3
 v3:=Tryz.zeroValue3
 t4:=Tryz.underlying4
 a4:=Tryz.isAgg4
 z4:=Tryz.sizeOf4
 v4:=Tryz.zeroValue4
 t5:=Tryz.underlying5
 a5:=Tryz.isAgg5
 z5:=Tryz.sizeOf5
 v5:=Tryz.zeroValue5
 t9:=Tryz.underlying9
 a9:=Tryz.isAgg9
 z9:=Tryz.sizeOf9
 v9:=Tryz.zeroValue9
 t20:=Tryz.underlying20
 a20:=Tryz.isAgg20
 z20:=Tryz.sizeOf20
 v20:=Tryz.zeroValue20
 t37:=Tryz.underlying86
 a37:=Tryz.isAgg86
 z37:=Tryz.sizeOf86
 v37:=Tryz.zeroValue86
 t46:=Tryz.underlying205
 a46:=Tryz.isAgg205
 z46:=Tryz.sizeOf205
 v46:=Tryz.zeroValue205
 t51:=Tryz.underlying95
 a51:=Tryz.isAgg95
 z51:=Tryz.sizeOf95
 v51:=Tryz.zeroValue95
 t53:=Tryz.underlying151
 a53:=Tryz.isAgg151
 z53:=Tryz.sizeOf151
 v53:=Tryz.zeroValue151
 t171:=Tryz.underlying217
 a171:=Tryz.isAgg217
 z171:=Tryz.sizeOf217
 v171:=Tryz.zeroValue217
 t173:=Tryz.underlying220
 a173:=Tryz.isAgg220
 z173:=Tryz.sizeOf220
 v173:=Tryz.zeroValue220
 t212:=Tryz.underlying255
 a212:=Tryz.isAgg255
 z212:=Tryz.sizeOf255
 v212:=Tryz.zeroValue255
 t213:=Tryz.underlying256
 a213:=Tryz.isAgg256
 z213:=Tryz.sizeOf256
 t232:=Tryz.underlying317
 a232:=Tryz.isAgg317
 z232:=Tryz.sizeOf317
 v232:=Tryz.zeroValue317
 t233:=Tryz.underlying318
 a233:=Tryz.isAgg318
 z233:=Tryz.sizeOf318
 v233:=Tryz.zeroValue318
 g17:=by kernel_rfl
 g18:=by kernel_rfl
 g19:=by kernel_rfl
 i0:=by kernel_rfl
 i2:=by kernel_rfl
 i3:=by kernel_rfl
 i4:=by kernel_rfl
 i5:=by kernel_rfl
 i9:=by kernel_rfl
 i20:=by kernel_rfl
 i37:=by kernel_rfl
 i46:=by kernel_rfl
 i51:=by kernel_rfl
 i53:=by kernel_rfl
 i171:=by kernel_rfl
 i173:=by kernel_rfl
 i212:=by kernel_rfl
 i232:=by kernel_rfl
 i233:=by kernel_rfl
 m17:=by kernel_rfl
 m18:=by kernel_rfl
 m19:=by kernel_rfl
def laysAtoi_ren:Go.Shelf.Ren:=⟨fun|129=>165|171=>27|172=>15|205=>128|243=>61|244=>45|245=>46|246=>102|247=>81|279=>82|280=>83|281=>84|282=>85|283=>138|284=>139|285=>140|286=>141|287=>126|316=>127|317=>164|318=>166|319=>167|320=>168|321=>160|322=>161|337=>195|338=>196|n=>n,fun|0=>0|2=>2|3=>3|4=>4|5=>5|9=>9|20=>20|21=>21|37=>86|46=>205|51=>95|53=>151|75=>51|76=>52|80=>97|85=>156|127=>153|143=>248|145=>250|167=>155|168=>158|171=>217|173=>220|175=>206|210=>209|212=>255|213=>256|232=>317|233=>318|n=>n,fun|15=>1|16=>2|17=>4|18=>7|19=>8|n=>n⟩
theorem laysAtoi:LaysC.n172 Tryz.prog laysAtoi_ren where
 mixed:=by kernel_rfl
 f129:=Tryz.func165.trans (congrArg some (by kernel_rfl))
 f171:=Tryz.func27.trans (congrArg some (by kernel_rfl))
 f172:=Tryz.func15.trans (congrArg some (by kernel_rfl))
 f205:=Tryz.func128.trans (congrArg some (by kernel_rfl))
 f243:=Tryz.func61.trans (congrArg some (by kernel_rfl))
 f244:=Tryz.func45.trans (congrArg some (by kernel_rfl))
 f245:=Tryz.func46.trans (congrArg some (by kernel_rfl))
 f246:=Tryz.func102.trans (congrArg some (by kernel_rfl))
 f247:=Tryz.func81.trans (congrArg some (by kernel_rfl))
 f279:=Tryz.func82.trans (congrArg some (by kernel_rfl))
 f280:=Tryz.func83.trans (congrArg some (by kernel_rfl))
 f281:=Tryz.func84.trans (congrArg some (by kernel_rfl))
 f282:=Tryz.func85.trans (congrArg some (by kernel_rfl))
 f283:=Tryz.func138.trans (congrArg some (by kernel_rfl))
 f284:=Tryz.func139.trans (congrArg some (by kernel_rfl))
 f285:=Tryz.func140.trans (congrArg some (by kernel_rfl))
 f286:=Tryz.func141.trans (congrArg some (by kernel_rfl))
 f287:=Tryz.func126.trans (congrArg some (by kernel_rfl))
 f316:=Tryz.func127.trans (congrArg some (by kernel_rfl))
 f317:=Tryz.func164.trans (congrArg some (by kernel_rfl))
 f318:=Tryz.func166.trans (congrArg some (by kernel_rfl))
 f319:=Tryz.func167.trans (congrArg some (by kernel_rfl))
 f320:=Tryz.func168.trans (congrArg some (by kernel_rfl))
 f321:=Tryz.func160.trans (congrArg some (by kernel_rfl))
 f322:=Tryz.func161.trans (congrArg some (by kernel_rfl))
 f337:=Tryz.func195.trans (congrArg some (by kernel_rfl))
 f338:=Tryz.func196.trans (congrArg some (by kernel_rfl))
 t0:=Tryz.underlying0
 a0:=Tryz.isAgg0
 z0:=Tryz.sizeOf0
 v0:=Tryz.zeroValue0
 t2:=Tryz.underlying2
 a2:=Tryz.isAgg2
 z2:=Tryz.sizeOf2
 v2:=Tryz.zeroValue2
 t3:=Tryz.underlying3
 a3:=Tryz.isAgg3
 z3:=Tryz.sizeOf3
 v3:=Tryz.zeroValue3
 t4:=Tryz.underlying4
 a4:=Tryz.isAgg4
 z4:=Tryz.sizeOf4
 v4:=Tryz.zeroValue4
 t5:=Tryz.underlying5
 a5:=Tryz.isAgg5
 z5:=Tryz.sizeOf5
 v5:=Tryz.zeroValue5
 t9:=Tryz.underlying9
 a9:=Tryz.isAgg9
 z9:=Tryz.sizeOf9
 v9:=Tryz.zeroValue9
 t20:=Tryz.underlying20
 a20:=Tryz.isAgg20
 z20:=Tryz.sizeOf20
 v20:=Tryz.zeroValue20
 t21:=Tryz.underlying21
 a21:=Tryz.isAgg21
 z21:=Tryz.sizeOf21
 v21:=Tryz.zeroValue21
 t37:=Tryz.underlying86
 a37:=Tryz.isAgg86
 z37:=Tryz.sizeOf86
 v37:=Tryz.zeroValue86
 t46:=Tryz.underlying205
 a46:=Tryz.isAgg205
 z46:=Tryz.sizeOf205
 v46:=Tryz.zeroValue205
 t51:=Tryz.underlying95
 a51:=Tryz.isAgg95
 z51:=Tryz.sizeOf95
 v51:=Tryz.zeroValue95
 t53:=Tryz.underlying151
 a53:=Tryz.isAgg151
 z53:=Tryz.sizeOf151
 v53:=Tryz.zeroValue151
 t75:=Tryz.underlying51
 a75:=Tryz.isAgg51
 z75:=Tryz.sizeOf51
 v75:=Tryz.zeroValue51
 t76:=Tryz.underlying52
 a76:=Tryz.isAgg52
 z76:=Tryz.sizeOf52
 v76:=Tryz.zeroValue52
 t85:=Tryz.underlying156
 a85:=Tryz.isAgg156
 z85:=Tryz.sizeOf156
 v85:=Tryz.zeroValue156
 t127:=Tryz.underlying153
 a127:=Tryz.isAgg153
 z127:=Tryz.sizeOf153
 v127:=Tryz.zeroValue153
 t143:=Tryz.underlying248
 a143:=Tryz.isAgg248
 z143:=Tryz.sizeOf248
 v143:=Tryz.zeroValue248
 t145:=Tryz.underlying250
 a145:=Tryz.isAgg250
 z145:=Tryz.sizeOf250
 v145:=Tryz.zeroValue250
 t167:=Tryz.underlying155
 a167:=Tryz.isAgg155
 z167:=Tryz.sizeOf155
 v167:=Tryz.zeroValue155
 t168:=Tryz.underlying158
 a168:=Tryz.isAgg158
 z168:=Tryz.sizeOf158
 v168:=Tryz.zeroValue158
 t171:=Tryz.underlying217
 a171:=Tryz.isAgg217
 z171:=Tryz.sizeOf217
 v171:=Tryz.zeroValue217
 t173:=Tryz.underlying220
 a173:=Tryz.isAgg220
 z173:=Tryz.sizeOf220
 v173:=Tryz.zeroValue220
 t175:=Tryz.underlying206
 a175:=Tryz.isAgg206
 z175:=Tryz.sizeOf206
 v175:=Tryz.zeroValue206
 t210:=Tryz.underlying209
 a210:=Tryz.isAgg209
 z210:=Tryz.sizeOf209
 v210:=Tryz.zeroValue209
 t212:=Tryz.underlying255
 a212:=Tryz.isAgg255
 z212:=Tryz.sizeOf255
 v212:=Tryz.zeroValue255
 t213:=Tryz.underlying256
 a213:=Tryz.isAgg256
 z213:=Tryz.sizeOf256
 t232:=Tryz.underlying317
 a232:=Tryz.isAgg317
 z232:=Tryz.sizeOf317
 v232:=Tryz.zeroValue317
 t233:=Tryz.underlying318
 a233:=Tryz.isAgg318
 z233:=Tryz.sizeOf318
 v233:=Tryz.zeroValue318
 g15:=by kernel_rfl
 g16:=by kernel_rfl
 g17:=by kernel_rfl
 g18:=by kernel_rfl
 g19:=by kernel_rfl
 t80:=Tryz.underlying97
 a80:=Tryz.isAgg97
 z80:=Tryz.sizeOf97
 v80:=Tryz.zeroValue97
 i0:=by kernel_rfl
 i2:=by kernel_rfl
 i3:=by kernel_rfl
 i4:=by kernel_rfl
 i5:=by kernel_rfl
 i9:=by kernel_rfl
 i20:=by kernel_rfl
 i21:=by kernel_rfl
 i37:=by kernel_rfl
 i46:=by kernel_rfl
 i51:=by kernel_rfl
 i53:=by kernel_rfl
 i75:=by kernel_rfl
 i76:=by kernel_rfl
 i80:=by kernel_rfl
 i85:=by kernel_rfl
 i127:=by kernel_rfl
 i143:=by kernel_rfl
 i145:=by kernel_rfl
 i167:=by kernel_rfl
 i168:=by kernel_rfl
 i171:=by kernel_rfl
 i173:=by kernel_rfl
 i175:=by kernel_rfl
 i210:=by kernel_rfl
 i212:=by kernel_rfl
 i232:=by kernel_rfl
 i233:=by kernel_rfl
 m15:=by kernel_rfl
 m16:=by kernel_rfl
 m17:=by kernel_rfl
 m18:=by kernel_rfl
 m19:=by kernel_rfl
 c0:=by kernel_rfl
 c2:=by kernel_rfl
 c3:=by kernel_rfl
 c4:=by kernel_rfl
 c5:=by kernel_rfl
 c9:=by kernel_rfl
 c20:=by kernel_rfl
 c21:=by kernel_rfl
 c37:=by kernel_rfl
 c46:=by kernel_rfl
 c51:=by kernel_rfl
 c53:=by kernel_rfl
 c75:=by kernel_rfl
 c76:=by kernel_rfl
 c80:=by kernel_rfl
 c85:=by kernel_rfl
 c127:=by kernel_rfl
 c143:=by kernel_rfl
 c145:=by kernel_rfl
 c167:=by kernel_rfl
 c168:=by kernel_rfl
 c171:=by kernel_rfl
 c173:=by kernel_rfl
 c175:=by kernel_rfl
 c210:=by kernel_rfl
 c212:=by kernel_rfl
 c213:=by kernel_rfl
 c232:=by kernel_rfl
 c233:=by kernel_rfl
theorem bldExtra:Builder.Extra Tryz.prog laysJoin_ren where
 sizeBuilder:=by kernel_rfl
 liesBuilder:=by kernel_rfl
 t5:=Tryz.underlying5
 a5:=Tryz.isAgg5
 z5:=Tryz.sizeOf5
 v5:=Tryz.zeroValue5
 infoByte:=by kernel_rfl
 cellsByte:=by kernel_rfl
 sizeByte:=by kernel_rfl
 neB5:=by decide
theorem Step.ofBelowM {G:GH}{μ:OH}{w w':World}(hw:Mem G μ w) (hb:Below w.heap.size w w'):Step G μ w G μ w' :=
 ⟨⟨fun b o h=>by rw [hb.block b (lt_of_heap (hw.g b o h))];exact hw.g b o h,fun b o h=>by rw [hb.block b (lt_of_heap (hw.own b o h))];exact hw.own b o h,hw.nodup,hw.apart⟩,GH.le_refl _,hb.os,hb.tape,hb.output,hb.size,fun b h _=>hb.block b h,fun _ o h=>.inl ⟨o,h⟩,fun b o h=>.inl ⟨o,h⟩⟩
def PowG (G:GH):Prop := ∀ w:World,(∀ b o,G b=some o→w.heap[b]? = some o)→Lib.TabIs Tryz.prog w "internal/strconv.uint64pow10" .u64 Lib.pow10Tab
def ErrsG (G:GH):Prop := ∀ w:World,(∀ b o,G b=some o→w.heap[b]? = some o)→(∃ ev,w.cell? ⟨laysAtoi_ren.g 15,0,none⟩=some ev∧(ev=.nilIface∨∃ te pe,ev=.iface te pe))∧∃ ev,w.cell? ⟨laysAtoi_ren.g 16,0,none⟩=some ev∧(ev=.nilIface∨∃ te pe,ev=.iface te pe)
theorem PowG.le {G G':GH}(h:PowG G) (hle:GH.le G G'):PowG G':=fun w hw=>h w fun b o hb=>hw b o (hle b o hb)
theorem ErrsG.le {G G':GH}(h:ErrsG G) (hle:GH.le G G'):ErrsG G':=fun w hw=>h w fun b o hb=>hw b o (hle b o hb)
theorem below_grow (w:World) (k:Nat) (os:Array Obj):Below w.heap.size w (Go.Sort.grow (w.drewN k) os):=by
 have e:(w.drewN k).heap=w.heap:=rfl
 refine ⟨rfl,rfl,rfl,?_,fun i hi=>?_⟩
 ·show _≤((w.drewN k).heap++os).size
  rw [e,Array.size_append]
  omega
 ·show ((w.drewN k).heap++os)[i]? = _
  rw [e,Array.getElem?_append_left hi]
theorem itoa_s {G:GH}(hP:PowG G) {n:Int}(h0 : -9223372036854775808≤n) (h1:n≤9223372036854775807):Con Tryz.prog 27 #[.int .i64 n] G [] (Just (.string ⟨(Lib.itoa n).toArray⟩) G):=by
 refine Con.ofCalls fun w hw=>?_
 refine (Any.strconv_Itoa laysItoa n h0 h1 w (hP w hw.g)).mono ?_
 rintro e w' ⟨rfl,k,os,rfl⟩
 exact ⟨_,rfl,G,[],Step.ofBelow hw (below_grow w k os),rfl,rfl,rfl⟩
theorem itoaN_s {G:GH}(hP:PowG G) {n:Int}(h0:0≤n) (h1:n≤4294967296):Con Tryz.prog 27 #[.int .i64 n] G [] (Just (.string (numB n.toNat)) G):=by
 have q:=itoa_s hP (n:=n) (by omega) (by omega)
 rw [itoa_nat h0] at q
 exact q
def atoiN (w:B8L):Int:=match Lib.atoiAll w with | .ok v=>v | .range=>Lib.atoiSat w|_=>0
theorem atoi_s {G:GH}(hE:ErrsG G) {s:ByteArray}(hs:s.size≤65536):Con Tryz.prog 15 #[.string s] G [] (fun r G' μ'=>(∃ ev,r=.tuple [.int .i64 (atoiN s.data.toList),ev].toArray)∧G'=G∧μ'=[]):=by
 refine Con.ofCalls fun w hw=>?_
 obtain ⟨⟨e1,h1,h2⟩,e2,h3,h4⟩:=hE w hw.g
 unfold atoiN
 cases h:Lib.atoiAll s.data.toList with
 | ok v =>
  refine (Any.strconv_Atoi_ok laysAtoi s (by omega) v h w).mono ?_
  rintro e w' ⟨rfl,hw'⟩
  have hb:Below w.heap.size w w':=by
   rcases hw' with rfl|⟨t,rfl⟩
   ·exact Below.refl _ _
   ·exact Lib.bytesWorld_below _ _ _
  exact ⟨_,rfl,G,[],Step.ofBelow hw hb,⟨_,rfl⟩,rfl,rfl⟩
 | range =>
  refine (Any.strconv_Atoi_range laysAtoi s (by omega) h e2 w h3 h4).mono ?_
  rintro e w' ⟨N,rfl,-,-,hb⟩
  exact ⟨_,rfl,G,[],Step.ofBelow hw hb,⟨_,rfl⟩,rfl,rfl⟩
 | _ =>
  refine (Any.strconv_Atoi_syntax laysAtoi s (by omega) h e1 w h1 h2).mono ?_
  rintro e w' ⟨N,rfl,-,-,hb⟩
  exact ⟨_,rfl,G,[],Step.ofBelow hw hb,⟨_,rfl⟩,rfl,rfl⟩
theorem joinL_eq:∀ (ws:List B8L),Lib.join ws [32]=joinL ws
 | []=>rfl
 | [w]=>Lib.join_one w [32]
 | w::v::ws=>by
  have ih:=joinL_eq (v::ws)
  rw [Lib.join_cons] at ih ⊢
  have e:joinL (w::v::ws)=w++32::joinL (v::ws):=rfl
  rw [e,← ih]
  unfold Lib.joinTail
  simp
def joinB (xs:List ByteArray):ByteArray:=⟨(joinL (xs.map (·.data.toList))).toArray⟩
theorem join_s {G:GH}{v:Value}{xs:List ByteArray}{ν:OH}(hg:Grow 9 1 v xs.length (xs.map Value.string) ν) (hn:xs.length≤65536) (hl:(joinL (xs.map (·.data.toList))).length≤65536):Con Tryz.prog 103 #[v,.string ⟨#[32]⟩] G ν (Keeps (.string (joinB xs)) G ν):=by
 have e32:(ByteArray.mk #[32]).data.toList=[32]:=rfl
 refine Con.ofCalls fun w hw=>?_
 rcases hg.2 with ⟨rfl,h0,rfl⟩|⟨b,cap,spare,rfl,rfl,hc,-,-⟩
 ·have:xs=[]:=List.length_eq_zero_iff.1 h0
  subst this
  refine (Any.strings_Join_none laysJoin bldExtra none 0 ⟨#[32]⟩ w).mono ?_
  rintro e w' ⟨rfl,rfl⟩
  exact ⟨_,rfl,G,[],Step.refl hw,rfl,rfl,rfl⟩
 ·have hb:=hw.own b _ (List.Mem.head _)
  refine (Any.strings_Join laysJoin bldExtra b 0 cap xs ⟨#[32]⟩ w (fun j x hj=>?_) (lt_of_heap hb) (by omega) hc (by rw [e32,joinL_eq];omega)).mono ?_
  ·unfold World.cell?
   simp only [hb,Nat.zero_add]
   rw [List.getElem?_toArray,List.getElem?_append_left (by rw [List.length_map];exact (List.getElem?_eq_some_iff.1 hj).1),List.getElem?_map,hj]
   rfl
  ·rintro e w' ⟨rfl,hbel⟩
   refine ⟨_,rfl,G,_,Step.ofBelowM hw hbel,?_,rfl,rfl⟩
   rw [e32,joinL_eq]
   rfl
section
attribute [local semireducible] PureOp
variable {P:Program}{ty t t':TypeId}{σ:Env}
theorem p_addS {x y:Operand}{a b:ByteArray}(hx:Env.ev σ x=some (.string a)) (hy:Env.ev σ y=some (.string b)) (h:a.size+b.size≤16777216):PureOp P (.binOp .add t x y t') ty σ (.string (a++b)):=by
 intro dst pos af g ρ hρ w
 have hn:¬ ((9223372036854775807:Int)<(a.size:Int)+(b.size:Int)):=by omega
 have hm:IntKind.i64.max=9223372036854775807:=rfl
 simp [execOp,hρ _ _ hx,hρ _ _ hy,eqGuard,binOp,Op.stringOp,hm,hn]
theorem p_sliceStrLH {x lo hi:Operand}{s:ByteArray}{k k':IntKind}(l h:Nat) [Ty P t .string] (hx:Env.ev σ x=some (.string s)) (hl:Env.ev σ lo=some (.int k (l:Int))) (hh:Env.ev σ hi=some (.int k' (h:Int))) (h0:l≤h) (h1:h≤s.size) :
 PureOp P (.slice t x (some lo) (some hi) none) ty σ (.string (s.extract l h)):=by
 intro dst pos af g ρ hρ w
 have:=run_sliceStr (P:=P) (w:=w) (t:=t) (s:=s) (lo:=some (.int k (l:Int))) (hi:=some (.int k' (h:Int))) (l:=l) (h:=h) (.inr ⟨k,rfl⟩) (.inr ⟨k',rfl⟩) h0 h1
 simp [execOp,hρ _ _ hx,hρ _ _ hl,hρ _ _ hh,this]
theorem p_shr8 {x y:Operand}{c n:Nat}{k:IntKind}(hx:Env.ev σ x=some (.int .u8 (c:Nat))) (hy:Env.ev σ y=some (.int k (n:Nat))) (hn:n<8):PureOp P (.binOp .shr t x y t') ty σ (.int .u8 ((c / 2 ^ n:Nat):Int)):=by
 intro dst pos af g ρ hρ w
 have e1:min n IntKind.u8.bits=n:=Nat.min_eq_left (by simp [IntKind.bits];omega)
 have e2:¬ ((n:Nat):Int)<0:=by omega
 have e3:((c:Nat):Int).fdiv (2 ^ n)=((c / 2 ^ n:Nat):Int):=by
  rw [Int.natCast_ediv,Int.natCast_pow]
  exact Int.fdiv_eq_ediv_of_nonneg _ (by rw [show (2:Int) ^ n=((2 ^ n:Nat):Int) by simp];exact Int.natCast_nonneg _)
 simp [execOp,hρ _ _ hx,hρ _ _ hy,eqGuard,binOp,Op.shift,e2,e1]
theorem wrap8 {c:Nat}(h:c<256):IntKind.u8.wrap (c:Int)=(c:Int):=by
 have hs:IntKind.u8.signed=false:=rfl
 simp [IntKind.wrap,IntKind.bits,hs]
 omega
theorem p_add8 {x y:Operand}{a b:Nat}(hx:Env.ev σ x=some (.int .u8 (a:Nat))) (hy:Env.ev σ y=some (.int .u8 (b:Nat))) (h:a+b<256):PureOp P (.binOp .add t x y t') ty σ (.int .u8 ((a+b:Nat):Int)):=by
 have q:=p_addw (P:=P) (ty:=ty) (t:=t) (t':=t') hx hy
 rw [show ((a:Nat):Int)+((b:Nat):Int)=((a+b:Nat):Int) by simp,wrap8 h] at q
 exact q
theorem p_and8 {x y:Operand}{a:Nat}(hx:Env.ev σ x=some (.int .u8 (a:Nat))) (hy:Env.ev σ y=some (.int .u8 15)) (ha:a<256):PureOp P (.binOp .and t x y t') ty σ (.int .u8 ((a % 16:Nat):Int)):=by
 have q:=p_and (P:=P) (ty:=ty) (t:=t) (t':=t') hx hy
 have e:(BitVec.ofInt IntKind.u8.bits (a:Nat) &&& BitVec.ofInt IntKind.u8.bits 15).toNat=a % 16:=by
  rw [BitVec.toNat_and]
  have h1:(BitVec.ofInt IntKind.u8.bits (a:Nat)).toNat=a:=by
   simp only [BitVec.toNat_ofInt,IntKind.bits];omega
  have h2:(BitVec.ofInt IntKind.u8.bits 15).toNat=2 ^ 4-1:=by
   simp only [BitVec.toNat_ofInt,IntKind.bits];rfl
  rw [h1,h2,Nat.and_two_pow_sub_one_eq_mod]
 rw [e,wrap8 (by omega)] at q
 exact q
end
def hexB:ByteArray:=⟨#[48,49,50,51,52,53,54,55,56,57,97,98,99,100,101,102]⟩
theorem hexB_size:hexB.size=16:=rfl
theorem hexB_at {n:Nat}(h:n<16):hexB.extract n (n+1)=⟨#[hexD n]⟩:=by
 match n,h with
 | 0,_|1,_|2,_|3,_|4,_|5,_|6,_|7,_|8,_|9,_|10,_|11,_|12,_|13,_|14,_|15,_=>rfl
 | n+16,h=>omega
theorem byteAs_s (G:GH) (c:UInt8):Con Tryz.prog 151 #[.int .u8 (c.toNat:Int)] G [] (Just (.string ⟨(byteL c.toNat).toArray⟩) G):=by
 have hc:c.toNat<256:=c.toNat_lt
 have hd:c.toNat / 2 ^ 4<16:=by omega
 have hm:c.toNat % 16<16:=by omega
 have e1:=hexB_at hd
 have e2:=hexB_at hm
 generalize c.toNat=n at hc hd hm e1 e2 ⊢
 (refine v_enter Tryz.func151 rfl Tryz.ntmps151 rfl ?_;intro B _)
 repeat' (first|refine Wa ?_|(refine Wc ⟨?_,?_⟩<;>first|intro h|exact ⟨⟩)|fail)
 refine Dz [] ?_
 all_goals refine Dt [0] ?_
 all_goals (first|refine Tv 1 ?_ (hop:=by first|apply PureOp.read;apply p_shr8 (n:=4) rfl rfl (by omega)|fail)|refine Dt [1] ?_)
 all_goals refine Dt [2] ?_
 all_goals (first|refine Tv 3 ?_ (hop:=by first|apply PureOp.read;apply p_shr8 (n:=4) rfl rfl (by omega)|fail)|refine Dt [3] ?_)
 all_goals (first|refine Tv 4 ?_ (hop:=by first|apply PureOp.read;apply p_and8 rfl rfl hc|fail)|refine Tv 4 ?_ (hop:=by first|apply PureOp.read;apply p_add8 (b:=1) rfl rfl (by omega)|fail)|refine Tv 4 ?_ (hop:=by first|apply PureOp.read;apply p_sliceStrLH (s:=hexB) (n / 2 ^ 4) (n / 2 ^ 4+1) rfl rfl rfl (by omega) (by rw [hexB_size];omega)|fail)|refine Tv 4 ?_ (hop:=by first|apply PureOp.read;apply p_sliceStrLH (s:=hexB) (n % 16) (n % 16+1) rfl rfl rfl (by omega) (by rw [hexB_size];omega)|fail)|refine Tv 4 ?_ (hop:=by first|apply PureOp.read;apply p_addS rfl rfl (by rw [e1];show 2+1≤_;omega)|fail)|refine Tv 4 ?_ (hop:=by first|apply PureOp.read;apply p_addS rfl rfl (by rw [e1,e2,ByteArray.size_append];show 2+1+1≤_;omega)|fail)|refine Dt [4] ?_)
 all_goals (first|refine Tv 5 ?_ (hop:=by first|apply PureOp.read;apply p_and8 rfl rfl hc|fail)|refine Tv 5 ?_ (hop:=by first|apply PureOp.read;apply p_add8 (b:=1) rfl rfl (by omega)|fail)|refine Tv 5 ?_ (hop:=by first|apply PureOp.read;apply p_sliceStrLH (s:=hexB) (n / 2 ^ 4) (n / 2 ^ 4+1) rfl rfl rfl (by omega) (by rw [hexB_size];omega)|fail)|refine Tv 5 ?_ (hop:=by first|apply PureOp.read;apply p_sliceStrLH (s:=hexB) (n % 16) (n % 16+1) rfl rfl rfl (by omega) (by rw [hexB_size];omega)|fail)|refine Tv 5 ?_ (hop:=by first|apply PureOp.read;apply p_addS rfl rfl (by rw [e1];show 2+1≤_;omega)|fail)|refine Tv 5 ?_ (hop:=by first|apply PureOp.read;apply p_addS rfl rfl (by rw [e1,e2,ByteArray.size_append];show 2+1+1≤_;omega)|fail)|refine Dt [5] ?_)
 all_goals (first|refine Tv 6 ?_ (hop:=by first|apply PureOp.read;apply p_and8 rfl rfl hc|fail)|refine Tv 6 ?_ (hop:=by first|apply PureOp.read;apply p_add8 (b:=1) rfl rfl (by omega)|fail)|refine Tv 6 ?_ (hop:=by first|apply PureOp.read;apply p_sliceStrLH (s:=hexB) (n / 2 ^ 4) (n / 2 ^ 4+1) rfl rfl rfl (by omega) (by rw [hexB_size];omega)|fail)|refine Tv 6 ?_ (hop:=by first|apply PureOp.read;apply p_sliceStrLH (s:=hexB) (n % 16) (n % 16+1) rfl rfl rfl (by omega) (by rw [hexB_size];omega)|fail)|refine Tv 6 ?_ (hop:=by first|apply PureOp.read;apply p_addS rfl rfl (by rw [e1];show 2+1≤_;omega)|fail)|refine Tv 6 ?_ (hop:=by first|apply PureOp.read;apply p_addS rfl rfl (by rw [e1,e2,ByteArray.size_append];show 2+1+1≤_;omega)|fail)|refine Dt [6] ?_)
 all_goals refine Dt [7] ?_
 all_goals (first|refine Tv 8 ?_ (hop:=by first|apply PureOp.read;apply p_and8 rfl rfl hc|fail)|refine Tv 8 ?_ (hop:=by first|apply PureOp.read;apply p_add8 (b:=1) rfl rfl (by omega)|fail)|refine Tv 8 ?_ (hop:=by first|apply PureOp.read;apply p_sliceStrLH (s:=hexB) (n / 2 ^ 4) (n / 2 ^ 4+1) rfl rfl rfl (by omega) (by rw [hexB_size];omega)|fail)|refine Tv 8 ?_ (hop:=by first|apply PureOp.read;apply p_sliceStrLH (s:=hexB) (n % 16) (n % 16+1) rfl rfl rfl (by omega) (by rw [hexB_size];omega)|fail)|refine Tv 8 ?_ (hop:=by first|apply PureOp.read;apply p_addS rfl rfl (by rw [e1];show 2+1≤_;omega)|fail)|refine Tv 8 ?_ (hop:=by first|apply PureOp.read;apply p_addS rfl rfl (by rw [e1,e2,ByteArray.size_append];show 2+1+1≤_;omega)|fail)|refine Dt [8] ?_)
 all_goals refine Dt [9] ?_
 all_goals (first|refine Tv 10 ?_ (hop:=by first|apply PureOp.read;apply p_and8 rfl rfl hc|fail)|refine Tv 10 ?_ (hop:=by first|apply PureOp.read;apply p_add8 (b:=1) rfl rfl (by omega)|fail)|refine Tv 10 ?_ (hop:=by first|apply PureOp.read;apply p_sliceStrLH (s:=hexB) (n / 2 ^ 4) (n / 2 ^ 4+1) rfl rfl rfl (by omega) (by rw [hexB_size];omega)|fail)|refine Tv 10 ?_ (hop:=by first|apply PureOp.read;apply p_sliceStrLH (s:=hexB) (n % 16) (n % 16+1) rfl rfl rfl (by omega) (by rw [hexB_size];omega)|fail)|refine Tv 10 ?_ (hop:=by first|apply PureOp.read;apply p_addS rfl rfl (by rw [e1];show 2+1≤_;omega)|fail)|refine Tv 10 ?_ (hop:=by first|apply PureOp.read;apply p_addS rfl rfl (by rw [e1,e2,ByteArray.size_append];show 2+1+1≤_;omega)|fail)|refine Dt [10] ?_)
 all_goals (first|refine Tv 11 ?_ (hop:=by first|apply PureOp.read;apply p_and8 rfl rfl hc|fail)|refine Tv 11 ?_ (hop:=by first|apply PureOp.read;apply p_add8 (b:=1) rfl rfl (by omega)|fail)|refine Tv 11 ?_ (hop:=by first|apply PureOp.read;apply p_sliceStrLH (s:=hexB) (n / 2 ^ 4) (n / 2 ^ 4+1) rfl rfl rfl (by omega) (by rw [hexB_size];omega)|fail)|refine Tv 11 ?_ (hop:=by first|apply PureOp.read;apply p_sliceStrLH (s:=hexB) (n % 16) (n % 16+1) rfl rfl rfl (by omega) (by rw [hexB_size];omega)|fail)|refine Tv 11 ?_ (hop:=by first|apply PureOp.read;apply p_addS rfl rfl (by rw [e1];show 2+1≤_;omega)|fail)|refine Tv 11 ?_ (hop:=by first|apply PureOp.read;apply p_addS rfl rfl (by rw [e1,e2,ByteArray.size_append];show 2+1+1≤_;omega)|fail)|refine Dt [11] ?_)
 all_goals (first|refine Tv 12 ?_ (hop:=by first|apply PureOp.read;apply p_and8 rfl rfl hc|fail)|refine Tv 12 ?_ (hop:=by first|apply PureOp.read;apply p_add8 (b:=1) rfl rfl (by omega)|fail)|refine Tv 12 ?_ (hop:=by first|apply PureOp.read;apply p_sliceStrLH (s:=hexB) (n / 2 ^ 4) (n / 2 ^ 4+1) rfl rfl rfl (by omega) (by rw [hexB_size];omega)|fail)|refine Tv 12 ?_ (hop:=by first|apply PureOp.read;apply p_sliceStrLH (s:=hexB) (n % 16) (n % 16+1) rfl rfl rfl (by omega) (by rw [hexB_size];omega)|fail)|refine Tv 12 ?_ (hop:=by first|apply PureOp.read;apply p_addS rfl rfl (by rw [e1];show 2+1≤_;omega)|fail)|refine Tv 12 ?_ (hop:=by first|apply PureOp.read;apply p_addS rfl rfl (by rw [e1,e2,ByteArray.size_append];show 2+1+1≤_;omega)|fail)|refine Dt [12] ?_)
 all_goals (first|refine Tv 13 ?_ (hop:=by first|apply PureOp.read;apply p_and8 rfl rfl hc|fail)|refine Tv 13 ?_ (hop:=by first|apply PureOp.read;apply p_add8 (b:=1) rfl rfl (by omega)|fail)|refine Tv 13 ?_ (hop:=by first|apply PureOp.read;apply p_sliceStrLH (s:=hexB) (n / 2 ^ 4) (n / 2 ^ 4+1) rfl rfl rfl (by omega) (by rw [hexB_size];omega)|fail)|refine Tv 13 ?_ (hop:=by first|apply PureOp.read;apply p_sliceStrLH (s:=hexB) (n % 16) (n % 16+1) rfl rfl rfl (by omega) (by rw [hexB_size];omega)|fail)|refine Tv 13 ?_ (hop:=by first|apply PureOp.read;apply p_addS rfl rfl (by rw [e1];show 2+1≤_;omega)|fail)|refine Tv 13 ?_ (hop:=by first|apply PureOp.read;apply p_addS rfl rfl (by rw [e1,e2,ByteArray.size_append];show 2+1+1≤_;omega)|fail)|refine Dt [13] ?_)
 all_goals refine Dt [14] ?_
 all_goals refine Dd ?_
 refine Vr ?_
 refine ⟨?_,rfl,rfl⟩
 rw [e1,e2]
 congr 1
theorem ba_cons (c:UInt8) (l:ByteArray):ByteArray.mk #[c]++l=⟨(c::l.data.toList).toArray⟩:=by
 apply ByteArray.ext
 apply Array.ext'
 simp
theorem piece_toList (s:ByteArray) (p n:Nat):(s.extract p (p+n)).data.toList=pieceL s p n:=by
 unfold pieceL
 rw [ByteArray.data_extract,Array.toList_extract]
 simp [List.extract_eq_take_drop]
theorem escape_s (G:GH) {r:Nat}{l:ByteArray}(h0:0<l.size) (hl:l.size≤65536):Con Tryz.prog 111 #[.int .i32 (r:Int),.string l] G [] (Just (.string ⟨(escape1 r l.data.toList).toArray⟩) G):=by
 have hz:(ByteArray.mk #[92]).size=1:=rfl
 have hll:l.data.toList.length=l.size:=Array.length_toList ..
 have hb:=byteAs_s G (l.data.toList.headD 0)
 have hb0:(l.data.toList.headD 0).toNat=byt l 0:=by
  have e:=byt_toList l 0 h0
  have e2:l.data.toList.head? = l.data.toList[0]? := by simp [List.head?_eq_getElem?]
  rw [List.headD_eq_head?_getD,e2,e,Option.getD_some]
  unfold byt
  rfl
 rw [hb0] at hb
 (refine v_enter Tryz.func111 rfl Tryz.ntmps111 rfl ?_;intro B _)
 repeat' (first|refine Wa ?_|(refine Wc ⟨?_,?_⟩<;>first|intro h|exact ⟨⟩)|apply v_pure;(case hop=>apply p_addS rfl rfl (by rw [hz];omega));(case hd=>rfl)|refine cJ hb ?_|fail)
 all_goals
  (refine Vr ?_
   refine ⟨?_,rfl,rfl⟩
   unfold escape1
   first
    |(rw [if_pos (show r=34∨r=92 by omega)]
      exact congrArg Value.string (ba_cons 92 l))
    |(rw [if_neg (show ¬ (r=34∨r=92) by omega),if_pos (by rw [hll];omega),hb0])
    |(rw [if_neg (show ¬ (r=34∨r=92) by omega),if_neg (by rw [hll];omega)]))
theorem quote_s {G:GH}(hT:TabsG G) {s:ByteArray}(hs:s.size≤65536):Con Tryz.prog 70 #[.string s] G [] (Just (.string (quoteB s)) G):=by
 apply Con.just
 (refine v_enter Tryz.func70 rfl Tryz.ntmps70 rfl ?_;intro B _)
 repeat' (first|(refine Wd 3 ?_;intro wb)|refine Wa ?_|(refine Wc ⟨?_,?_⟩<;>first|intro h|exact ⟨⟩)|apply v_call (hs:=writeB_s (c:=34) (bld_nil wb) (by simp)) (μ2:=[]);(case ha=>rfl);(case hp=>exact List.Perm.refl _);(case hd=>rfl);rintro _ G _ hle ⟨rfl,p1,v1,ν1,hb1,rfl⟩|(refine Wb ?_;intro b)|fail)
 rw [List.append_nil]
 have hq:(quoteB s).data.toList=34::(quoR s s.size 0++[34]):=rfl
 refine v_loopI (ι:=Nat×Nat) [10,3,0] (fun x us G' μ'=>G'=G∧∃ b u p v ν,us=[Value.pointer (some ⟨b,0,none⟩),.pointer (some ⟨wb,0,none⟩),.string s]∧μ'=(b,.stringIter s x.1)::(wb,bldO p v)::ν∧Bld wb u p v ν∧u.data.toList++quoR s x.2 x.1++[34]=(quoteB s).data.toList∧u.size≤1+5*x.1∧s.size≤x.1+x.2∧x.1≤s.size) (fun x=>s.size-x.1) rfl (0,s.size) ⟨rfl,b,_,p1,v1,ν1,rfl,rfl,hb1,by rw [hq];rfl,by simp,by simp,by simp⟩ ?_
 rintro ⟨p,n⟩ us G' μ' ⟨rfl,b,u,pw,vw,ν,rfl,rfl,hb,he,hu,hn,hple⟩
 simp only at he hu hn hple
 by_cases hp:p<s.size
 ·obtain ⟨m,rfl⟩:=fuel hp hn
  have hw:=decode_w s p hp
  have hd:=decode_of_sz s p hp
  have hd2:=decodeGo_extract hp
  have hcall:=decode_s hT (s.extract p s.size)
  rw [hd2] at hcall
  have hend:p+(Utf8.decode s p).2≤s.size:=by
   rw [hd]
   split
   ·simp only;omega
   ·rename_i hz
    exact sz_end s p hz hp
  have hps:(s.extract p (p+(Utf8.decode s p).2)).size=(Utf8.decode s p).2:=by
   rw [ByteArray.size_extract];omega
  have hes:=escape_s (G:=G') (r:=(Utf8.decode s p).1) (l:=s.extract p (p+(Utf8.decode s p).2)) (by rw [hps];omega) (by rw [hps];omega)
  rw [piece_toList] at hes
  have hpl:=pieceL_len (s:=s) (p:=p) hend
  have hel:(escape1 (Utf8.decode s p).1 (pieceL s p (Utf8.decode s p).2)).length≤3+(Utf8.decode s p).2:=by
   unfold escape1
   split
   ·rw [List.length_cons,hpl];omega
   ·split
    ·show 4≤_
     omega
    ·rw [hpl];omega
  have hes2:(ByteArray.mk (escape1 (Utf8.decode s p).1 (pieceL s p (Utf8.decode s p).2)).toArray).size=(escape1 (Utf8.decode s p).1 (pieceL s p (Utf8.decode s p).2)).length:=by
   show Array.size _=_
   rw [List.size_toArray]
  have hq2:quoR s (m+1) p=escape1 (Utf8.decode s p).1 (pieceL s p (Utf8.decode s p).2)++quoR s m (p+(Utf8.decode s p).2):=by
   rw [quoR,if_pos hp]
  have hwr:=writeS_s (G:=G') (s:=⟨(escape1 (Utf8.decode s p).1 (pieceL s p (Utf8.decode s p).2)).toArray⟩) hb (by rw [hes2];omega)
  repeat' (first|refine Wa ?_|(refine Wc ⟨?_,?_⟩<;>first|intro h|exact ⟨⟩)|apply v_nextS;(case hx=>rfl);(case hb=>exact aM);(case hp=>assumption);(case hu=>exact Upd.here _ _);(case hd=>rfl)|apply v_read;(case hop=>(apply r_nextEnd;(case hx=>rfl);(case hb=>exact aM);(case hp=>assumption)));(case hd=>rfl)|refine cJ hcall ?_|refine cJ hes ?_|apply v_pure;(case hop=>apply p_sliceStrLH p (p+(Utf8.decode s p).2) rfl rfl rfl (by omega) hend);(case hd=>rfl)|apply v_call (hs:=hwr) (μ2:=[(b,_)]);(case ha=>rfl);(case hp=>exact (List.perm_append_comm (l₁:=[(b,_)])));(case hd=>rfl);rintro _ G2 _ hle2 ⟨rfl,p2,v2,ν2,hb2,rfl⟩|(refine Wb ?_;intro b)|fail)
  refine v_perm List.perm_append_comm ?_
  refine v_againI (p+(Utf8.decode s p).2,m) rfl ⟨rfl,b,_,p2,v2,ν2,rfl,rfl,hb2,?_,?_,by simp only;omega,hend⟩ (by simp only;omega)
  ·rw [← he,hq2]
   simp
  ·rw [ByteArray.size_append,hes2]
   simp only
   omega
 ·have hq0:quoR s n p=[]:=by
   cases n with
   | zero=>rfl
   | succ n=>rw [quoR,if_neg hp]
  have hw1:=writeB_s (G:=G') (c:=34) hb (by omega)
  repeat' (first|refine Wa ?_|(refine Wc ⟨?_,?_⟩<;>first|intro h|exact ⟨⟩)|apply v_nextS;(case hx=>rfl);(case hb=>exact aM);(case hp=>assumption);(case hu=>exact Upd.here _ _);(case hd=>rfl)|apply v_read;(case hop=>(apply r_nextEnd;(case hx=>rfl);(case hb=>exact aM);(case hp=>assumption)));(case hd=>rfl)|apply v_call (hs:=hw1) (μ2:=[(b,_)]);(case ha=>rfl);(case hp=>exact (List.perm_append_comm (l₁:=[(b,_)])));(case hd=>rfl);rintro _ G2 _ hle2 ⟨rfl,p2,v2,ν2,hb2,rfl⟩|(refine Wb ?_;intro b)|fail)
  have hsz:(u.push 34).size=u.size+1:=ByteArray.size_push
  have hw2:=string_s (G:=G2) hb2 (by omega) (by omega)
  repeat' (first|refine Wa ?_|(refine Wc ⟨?_,?_⟩<;>first|intro h|exact ⟨⟩)|apply v_call (hs:=hw2) (μ2:=[(b,_)]);(case ha=>rfl);(case hp=>exact List.Perm.refl _);(case hd=>rfl);rintro _ G3 _ hle3 ⟨rfl,rfl,rfl⟩|(refine Wb ?_;intro b)|fail)
  refine Vr ?_
  refine ⟨?_,rfl⟩
  congr 1
  apply ByteArray.ext
  apply Array.ext'
  rw [← he,hq0,List.append_nil]
  simp [ByteArray.push]
end Go.Proofs.YtnncjoooaknlmaaGreatDoor
/-
  quote (layer 6), the walks, 2: quoted, digit, unescape, Unquote.
-/
namespace Go.Proofs.YtnncjoooaknlmaaGreatDoor
open Go.Vx Go.ChangeShapes Go.WideShapes Go.ChangeAt Go.RowKit
theorem get_iff (s:ByteArray) (i:Nat) (c:UInt8):s.get! i=c↔byt s i=c.toNat:=by
 unfold byt
 exact UInt8.toNat_inj.symm
theorem drop_get {s:ByteArray}{i:Nat}(h:i<s.size):s.data.toList.drop i=s.get! i::s.data.toList.drop (i+1):=by
 have hl:s.data.toList.length=s.size:=Array.length_toList ..
 have e:=byt_toList s i h
 rw [List.getElem?_eq_getElem (by omega)] at e
 rw [List.drop_eq_getElem_cons (by omega),Option.some.inj e]
theorem drop_none {s:ByteArray}{i:Nat}(h:¬ i<s.size):s.data.toList.drop i=[]:=by
 have hl:s.data.toList.length=s.size:=Array.length_toList ..
 exact List.drop_eq_nil_of_le (by omega)
theorem qlen_nil (n i:Nat):qlen n [] i=0:=by cases n<;>rfl
theorem quoted_s (G:GH) {s:ByteArray}(hs:s.size≤65536):Con Tryz.prog 129 #[.string s] G [] (Just (.int .i64 ((qlen s.size (s.data.toList.drop 1) 1:Nat):Int)) G):=by
 (refine v_enter Tryz.func129 rfl Tryz.ntmps129 rfl ?_;intro B _)
 repeat' (first|refine Wa ?_|(refine Wc ⟨?_,?_⟩<;>first|intro h|exact ⟨⟩)|fail)
 refine v_loopI (ι:=Nat×Nat) [3,0] (fun x us G' μ'=>G'=G∧μ'=[]∧us=[Value.int .i64 (x.1:Int),.string s]∧s.size≤x.1+x.2∧1≤x.1∧x.1≤65540∧qlen s.size (s.data.toList.drop 1) 1=qlen x.2 (s.data.toList.drop x.1) x.1) (fun x=>s.size+2-x.1) rfl (1,s.size) ⟨rfl,rfl,rfl,by simp,by simp,by simp,rfl⟩ ?_
 rintro ⟨i,n⟩ us G' μ' ⟨rfl,rfl,rfl,hn,h1,h2,he⟩
 simp only at hn h1 h2 he
 by_cases hi:i<s.size
 ·obtain ⟨m,rfl⟩:∃ m,n=m+1:=⟨n-1,by omega⟩
  rw [drop_get hi,qlen,List.drop_drop] at he
  have c1:=get_iff s i 92
  have c2:=get_iff s i 34
  have t1:(92:UInt8).toNat=92:=rfl
  have t2:(34:UInt8).toNat=34:=rfl
  rw [t1] at c1
  rw [t2] at c2
  repeat' (first|refine Wa ?_|(refine Wc ⟨?_,?_⟩<;>first|intro h|exact ⟨⟩)|fail)
  ·refine v_againI (i+2,m) rfl ⟨rfl,rfl,rfl,by simp only;omega,by simp only;omega,by simp only;omega,?_⟩ (by simp only;omega)
   rw [he,if_pos (c1.2 (by omega))]
  ·refine Vr ?_
   refine ⟨?_,rfl,rfl⟩
   rw [he,if_neg (fun e=>by have:=c1.1 e;omega),if_pos (c2.2 (by omega))]
   rfl
  ·refine v_againI (i+1,m) rfl ⟨rfl,rfl,rfl,by simp only;omega,by simp only;omega,by simp only;omega,?_⟩ (by simp only;omega)
   rw [he,if_neg (fun e=>by have:=c1.1 e;omega),if_neg (fun e=>by have:=c2.1 e;omega)]
 ·rw [drop_none hi,qlen_nil] at he
  repeat' (first|refine Wa ?_|(refine Wc ⟨?_,?_⟩<;>first|intro h|exact ⟨⟩)|fail)
  refine Vr ?_
  refine ⟨?_,rfl,rfl⟩
  rw [he]
  rfl
theorem indexByteStr_run (s:ByteArray) (c:UInt8) (w:World):(callFunc 158 #[.string s,.int .u8 (c.toNat:Int)]).run Tryz.prog w=.ok (.value (.int .i64 (firstIdx s c))) w:=by
 rw [run_callFunc_extern Tryz.func158 rfl rfl rfl rfl,run_indexByte_string]
 simp
section
attribute [local semireducible] ReadOp
theorem r_indexByteStr {ty:TypeId}{σ:Env}{G:GH}{μ:OH}{x y:Operand}{s:ByteArray}{c:UInt8}{ts:Array TypeId}(hx:Env.ev σ x=some (.string s)) (hy:Env.ev σ y=some (.int .u8 (c.toNat:Int))):ReadOp Tryz.prog (.call { callee:=.value (.func 158),args:=#[x,y],argTypes:=ts }) ty σ G μ (.int .i64 (firstIdx s c)):=by
 intro dst pos af g ρ hρ w hw
 have hf:ρ (.func 158)=.func (.func 158) #[] #[]:=hρ _ _ rfl
 simp [execOp,resolve,hf,Deferred.ofValue,invoke,hρ _ _ hx,hρ _ _ hy,indexByteStr_run]
end
theorem indexByteL_s (G:GH) (s:ByteArray) (c:UInt8):Con Tryz.prog 122 #[.string s,.int .u8 (c.toNat:Int)] G [] (Just (.int .i64 (firstIdx s c)) G):=by
 have q:=fun (ty:TypeId) (σ:Env) (x y:Operand) (ts:Array TypeId) hx hy=>r_indexByteStr (ty:=ty) (σ:=σ) (G:=G) (μ:=[]) (x:=x) (y:=y) (s:=s) (c:=c) (ts:=ts) hx hy
 generalize firstIdx s c=r at q ⊢
 generalize (c.toNat:Int)=n at q ⊢
 (refine v_enter Tryz.func122 rfl Tryz.ntmps122 rfl ?_;intro B _)
 repeat' (first|refine Wa ?_|(refine Wc ⟨?_,?_⟩<;>first|intro h|exact ⟨⟩)|apply v_read;(case hop=>exact q _ _ _ _ _ rfl rfl);(case hd=>rfl)|fail)
 refine Vr ?_
 exact ⟨rfl,rfl,rfl⟩
instance:Callable Tryz.prog 122:=callable_of Tryz.func122 (by kernel_rfl) rfl
theorem indexByte_s (G:GH) (s:ByteArray) (c:UInt8):Con Tryz.prog 194 #[.string s,.int .u8 (c.toNat:Int)] G [] (Just (.int .i64 (firstIdx s c)) G):=by
 have q:=indexByteL_s G s c
 generalize firstIdx s c=r at q ⊢
 generalize (c.toNat:Int)=n at q ⊢
 (refine v_enter Tryz.func194 rfl Tryz.ntmps194 rfl ?_;intro B _)
 repeat' (first|refine Wa ?_|(refine Wc ⟨?_,?_⟩<;>first|intro h|exact ⟨⟩)|refine cJ q ?_|fail)
 refine Vr ?_
 exact ⟨rfl,rfl,rfl⟩
theorem digit_all:(List.range 256).all (fun c=>firstIdx hexB (UInt8.ofNat c) == digitN (UInt8.ofNat c))=true:=by kernel_rfl
theorem digit_eq (c:UInt8):firstIdx hexB c=digitN c:=by
 have h:=List.all_eq_true.1 digit_all c.toNat (List.mem_range.2 c.toNat_lt)
 simpa using h
theorem digit_s (G:GH) (c:UInt8):Con Tryz.prog 163 #[.int .u8 (c.toNat:Int)] G [] (Just (.int .i64 (digitN c)) G):=by
 have q:=indexByte_s G hexB c
 rw [digit_eq] at q
 generalize digitN c=r at q ⊢
 generalize (c.toNat:Int)=n at q ⊢
 (refine v_enter Tryz.func163 rfl Tryz.ntmps163 rfl ?_;intro B _)
 repeat' (first|refine Wa ?_|(refine Wc ⟨?_,?_⟩<;>first|intro h|exact ⟨⟩)|refine cJ q ?_|fail)
 refine Vr ?_
 exact ⟨rfl,rfl,rfl⟩
end Go.Proofs.YtnncjoooaknlmaaGreatDoor
/-
  quote (layer 6), the walks, 3: unescape, Unquote.
-/
namespace Go.Proofs.YtnncjoooaknlmaaGreatDoor
open Go.Vx Go.ChangeShapes Go.WideShapes Go.ChangeAt Go.RowKit
theorem toList_getD (s:ByteArray) (i:Nat):s.data.toList.getD i 0=if i<s.size then s.get! i else 0:=by
 by_cases h:i<s.size
 ·rw [if_pos h,List.getD_eq_getElem?_getD,byt_toList s i h];rfl
 ·have hl:s.data.toList.length=s.size:=Array.length_toList ..
  rw [if_neg h,List.getD_eq_getElem?_getD,List.getElem?_eq_none (by omega)];rfl
section
attribute [local semireducible] PureOp
variable {P:Program}{ty t t':TypeId}{σ:Env}
theorem p_shl4 {x y:Operand}{d:Int}{k:IntKind}(hx:Env.ev σ x=some (.int .i64 d)) (hy:Env.ev σ y=some (.int k 4)) (h0:0≤d) (h1:d<16):PureOp P (.binOp .shl t x y t') ty σ (.int .i64 (d*16)):=by
 have e:IntKind.i64.wrap (d*16)=d*16:=IntWalk.i64_in _ (by omega)
 intro dst pos af g ρ hρ w
 have e1:min 4 IntKind.i64.bits=4:=rfl
 simp [execOp,hρ _ _ hx,hρ _ _ hy,eqGuard,binOp,Op.shift,e1]
 exact e
theorem p_or16 {x y:Operand}{a b:Int}(hx:Env.ev σ x=some (.int .i64 (a*16))) (hy:Env.ev σ y=some (.int .i64 b)) (ha:0≤a) (ha':a<16) (hb:0≤b) (hb':b<16):PureOp P (.binOp .or t x y t') ty σ (.int .i64 (a*16+b)):=by
 have q:=p_or (P:=P) (ty:=ty) (t:=t) (t':=t') hx hy
 have e:(BitVec.ofInt IntKind.i64.bits (a*16) ||| BitVec.ofInt IntKind.i64.bits b).toNat=(a*16+b).toNat:=by
  rw [BitVec.toNat_or]
  have e1:(BitVec.ofInt IntKind.i64.bits (a*16)).toNat=2 ^ 4*a.toNat:=by
   simp only [BitVec.toNat_ofInt,IntKind.bits];omega
  have e2:(BitVec.ofInt IntKind.i64.bits b).toNat=b.toNat:=by
   simp only [BitVec.toNat_ofInt,IntKind.bits];omega
  rw [e1,e2,← Nat.two_pow_add_eq_or_of_lt (show b.toNat<2 ^ 4 by omega)]
  omega
 have e3:IntKind.i64.wrap (((a*16+b).toNat:Nat):Int)=a*16+b:=by
  rw [IntWalk.i64_in _ (by omega)]
  omega
 rw [e,e3] at q
 exact q
theorem p_conv8 {x:Operand}{n:Int}{k k'':IntKind}{u:TypeId} [Ty P t (.int k'')] [Ty P u (.int .u8)] (hx:Env.ev σ x=some (.int k n)) (h0:0≤n) (h1:n<256):PureOp P (.convert t u x) ty σ (.int .u8 n):=by
 have q:=p_conv (P:=P) (ty:=ty) (t:=t) (u:=u) (k':=.u8) (k'':=k'') hx
 have e:IntKind.u8.wrap n=n:=by
  have:=wrap8 (c:=n.toNat) (by omega)
  rwa [Int.toNat_of_nonneg h0] at this
 rw [e] at q
 exact q
end
theorem digit_lt (c:UInt8):digitN c<16:=by
 unfold digitN
 split
 ·omega
 ·split<;>omega
theorem unescape_s (G:GH) {s:ByteArray}(hs:s.size≤65536):Con Tryz.prog 134 #[.string s] G [] (Just (.tuple [.int .u8 ((unesc s.data.toList).1.toNat:Int),.int .i64 ((unesc s.data.toList).2:Int)].toArray) G):=by
 have q1:Con Tryz.prog 163 #[.int .u8 (byt s 1:Nat)] G [] (Just (.int .i64 (digitN (s.get! 1))) G):=by unfold byt;exact digit_s G (s.get! 1)
 have q2:Con Tryz.prog 163 #[.int .u8 (byt s 2:Nat)] G [] (Just (.int .i64 (digitN (s.get! 2))) G):=by unfold byt;exact digit_s G (s.get! 2)
 have hll:s.data.toList.length=s.size:=Array.length_toList ..
 have l1:=digit_lt (s.get! 1)
 have l2:=digit_lt (s.get! 2)
 have g1:=toList_getD s 1
 have g2:=toList_getD s 2
 have c1:=get_iff s 0 34
 have c2:=get_iff s 0 92
 have c3:=get_iff s 0 120
 have t1:(34:UInt8).toNat=34:=rfl
 have t2:(92:UInt8).toNat=92:=rfl
 have t3:(120:UInt8).toNat=120:=rfl
 rw [t1] at c1
 rw [t2] at c2
 rw [t3] at c3
 (refine v_enter Tryz.func134 rfl Tryz.ntmps134 rfl ?_;intro B _)
 by_cases h0:s=ByteArray.empty
 ·have hz:s.size=0:=by rw [h0];rfl
  have e:unesc s.data.toList=(0,0):=by rw [h0];rfl
  rw [e]
  repeat' (first|refine Wa ?_|(refine Wc ⟨?_,?_⟩<;>first|intro h|exact ⟨⟩)|fail)
  all_goals
   first
    | exact absurd h0 (by assumption)
    |(refine v_ret [] (outsA2 rfl rfl rfl) sS ?_
      exact ⟨rfl,rfl,rfl⟩)
    | omega
 have h1:0<s.size:=by
  apply Classical.byContradiction
  intro h
  exact h0 (ByteArray.ext (Array.eq_empty_of_size_eq_zero (by show s.size=0;omega)))
 have g0:s.data.toList.headD 0=s.get! 0:=by
  have:=drop_get h1
  rw [List.drop_zero] at this
  rw [this]
  rfl
 repeat' (first|refine Wa ?_|(refine Wc ⟨?_,?_⟩<;>first|intro h|exact ⟨⟩)|refine cJ q1 ?_|refine cJ q2 ?_|fail)
 all_goals
  first
   | exact absurd (show s=ByteArray.empty by assumption) h0
   |(refine v_ret [] (outsA2 rfl rfl rfl) sS ?_
     refine ⟨?_,rfl,rfl⟩
     unfold unesc
     first
      |(rw [g0,if_pos (by rw [c1,c2];omega)]
        unfold byt
        rfl)
      |(rw [g0,if_neg (by rw [c1,c2];omega),if_neg (by rw [hll,c3];omega)]
        rfl)
      |(rw [if_pos (by omega)] at g1 g2
        rw [g0,if_neg (by rw [c1,c2];omega),g1,g2,if_neg (by omega)]
        rfl)
      | fail)
   | skip
 refine Dz [] ?_
 all_goals refine Dt [0] ?_
 all_goals (first|refine Tv 1 ?_ (hop:=by first|apply PureOp.read;apply p_indexSn (m:=1) rfl rfl (by omega)|fail)|refine Tv 1 ?_ (hop:=by first|apply PureOp.read;apply p_indexSn (m:=2) rfl rfl (by omega)|fail)|refine Tv 1 ?_ (hop:=by first|apply PureOp.read;apply p_conv8 rfl (by omega) (by omega)|fail)|refine Dt [1] ?_)
 all_goals refine Dt [4] ?_
 all_goals (first|refine Tv 5 ?_ (hop:=by first|apply PureOp.read;apply p_indexSn (m:=1) rfl rfl (by omega)|fail)|refine Tv 5 ?_ (hop:=by first|apply PureOp.read;apply p_indexSn (m:=2) rfl rfl (by omega)|fail)|refine Tv 5 ?_ (hop:=by first|apply PureOp.read;apply p_conv8 rfl (by omega) (by omega)|fail)|refine Dt [5] ?_)
 all_goals (first|refine DJ 2 (hs:=q1) ?_|refine DJ 2 (hs:=q2) ?_|fail)
 all_goals (first|refine Tv 3 ?_ (hop:=by first|apply PureOp.read;apply p_shl4 rfl rfl (by assumption) l1|fail)|refine Tv 3 ?_ (hop:=by first|apply PureOp.read;apply p_or16 rfl rfl (by assumption) l1 (by assumption) l2|fail)|refine Dt [3] ?_)
 all_goals (first|refine DJ 6 (hs:=q1) ?_|refine DJ 6 (hs:=q2) ?_|fail)
 all_goals (first|refine Tv 7 ?_ (hop:=by first|apply PureOp.read;apply p_shl4 rfl rfl (by assumption) l1|fail)|refine Tv 7 ?_ (hop:=by first|apply PureOp.read;apply p_or16 rfl rfl (by assumption) l1 (by assumption) l2|fail)|refine Dt [7] ?_)
 all_goals (first|refine Tv 8 ?_ (hop:=by first|apply PureOp.read;apply p_indexSn (m:=1) rfl rfl (by omega)|fail)|refine Tv 8 ?_ (hop:=by first|apply PureOp.read;apply p_indexSn (m:=2) rfl rfl (by omega)|fail)|refine Tv 8 ?_ (hop:=by first|apply PureOp.read;apply p_conv8 rfl (by omega) (by omega)|fail)|refine Dt [8] ?_)
 all_goals refine Dt [9,10] ?_
 all_goals refine Dd ?_
 repeat' (first|refine Wa ?_|(refine Wc ⟨?_,?_⟩<;>first|intro h|exact ⟨⟩)|fail)
 refine v_ret [] (outsA2 rfl rfl rfl) sS ?_
 refine ⟨?_,rfl,rfl⟩
 unfold unesc
 rw [if_pos (by omega)] at g1 g2
 rw [g0,if_neg (by rw [c1,c2];omega),g1,g2,if_pos ⟨by omega,c3.2 (by omega),by assumption,by assumption⟩]
 have e:((UInt8.ofNat (digitN (s.get! 1)*16+digitN (s.get! 2)).toNat).toNat:Int)=digitN (s.get! 1)*16+digitN (s.get! 2):=by
  rw [UInt8.toNat_ofNat']
  omega
 simp only [e]
 rfl
end Go.Proofs.YtnncjoooaknlmaaGreatDoor
/-
  quote (layer 6), the walks, 4: Unquote.
-/
namespace Go.Proofs.YtnncjoooaknlmaaGreatDoor
open Go.Vx Go.ChangeShapes Go.WideShapes Go.ChangeAt Go.RowKit
section
attribute [local semireducible] ReadOp
theorem r_bytesStr {P:Program}{ty t t' e:TypeId}{σ:Env}{G:GH}{μ ν:OH}{x:Operand}{v:Value}{u:ByteArray}[hT:Ty P t (.slice e)] [hS:Ty P t' .string] [hE:Ty P e (.int .u8)] (hg:Grow e 1 v u.size (Lib.strCells u) ν) (hm:∀ x∈ν,x∈μ) (hx:Env.ev σ x=some v):ReadOp P (.convert t t' x) ty σ G μ (.string u):=by
 intro dst pos af g ρ hρ w hw
 obtain ⟨-,⟨rfl,h0,rfl⟩|⟨b,cap,spare,rfl,rfl,-,-,-⟩⟩:=hg
 ·have hu:u=ByteArray.empty:=ByteArray.ext (Array.eq_empty_of_size_eq_zero (by show u.size=0;omega))
  have hr:=run_convert_bytes_nil (P:=P) (w:=w) t e hT.h hE.h 0 0 t' hS.h
  simp [execOp,hρ _ _ hx,hr,hu]
 ·have hbk:=hw.own _ _ (hm _ (List.mem_singleton_self _))
  have hl:u.data.toList.length=u.size:=Array.length_toList ..
  have hr:=run_convert_bytes_back (P:=P) w t t' e ⟨b,0,none⟩ cap u.data.toList hT.h hE.h hS.h (fun j hj=>by
   rw [add_mk,Nat.zero_add]
   unfold World.cell?
   simp only [hbk]
   simp only [Option.isSome_none,Bool.false_eq_true,if_false,List.getElem?_toArray]
   rw [List.getElem?_append_left (by rw [Lib.strCells_length,← hl];exact hj)]
   unfold Lib.strCells
   rw [List.getElem?_map,List.getElem?_eq_getElem hj]
   rfl)
  rw [hl] at hr
  simp [execOp,hρ _ _ hx,hr]
end
section
attribute [local semireducible] PureOp
theorem p_sliceStrI {P:Program}{ty t:TypeId}{σ:Env}{x lo hi:Operand}{s:ByteArray}{k k':IntKind}(l h:Nat) {a b:Int} [Ty P t .string] (hx:Env.ev σ x=some (.string s)) (hl:Env.ev σ lo=some (.int k a)) (hh:Env.ev σ hi=some (.int k' b)) (ha:a=(l:Int)) (hb:b=(h:Int)) (h0:l≤h) (h1:h≤s.size) :
 PureOp P (.slice t x (some lo) (some hi) none) ty σ (.string (s.extract l h)):=by
 subst ha hb
 exact p_sliceStrLH l h hx hl hh h0 h1
end
def unqV:Option ByteArray→Value
 | some o=>.tuple [.string o,.int .i64 0].toArray
 | none=>.tuple [.string .empty,.int .i64 3].toArray
def restL (s:ByteArray) (i:Nat):B8L:=(s.data.toList.drop i).take (s.size-1-i)
theorem restL_drop (s:ByteArray) (i m:Nat):(restL s i).drop m=restL s (i+m):=by
 unfold restL
 rw [List.drop_take,List.drop_drop,Nat.sub_sub]
theorem restL_len (s:ByteArray) (i:Nat):(restL s i).length=s.size-1-i:=by
 have hl:s.data.toList.length=s.size:=Array.length_toList ..
 unfold restL
 rw [List.length_take,List.length_drop]
 omega
theorem restL_get {s:ByteArray}{i:Nat}(h:i<s.size-1):restL s i=s.get! i::restL s (i+1):=by
 have e:=restL_drop s i 1
 unfold restL at e ⊢
 rw [drop_get (by omega)] at e ⊢
 obtain ⟨k,hk⟩:∃ k,s.size-1-i=k+1:=⟨s.size-1-i-1,by omega⟩
 rw [hk] at e ⊢
 rw [List.take_succ_cons] at e ⊢
 rw [← e,List.drop_succ_cons,List.drop_zero]
theorem restL_extract {s:ByteArray}{i:Nat}(h:i≤s.size-1) (h1:1≤s.size):(s.extract i (s.size-1)).data.toList=restL s i:=by
 unfold restL
 rw [ByteArray.data_extract,Array.toList_extract]
theorem unesc_len (l:B8L):(unesc l).2≤l.length:=by
 unfold unesc
 split
 ·cases l with
  | nil=>rename_i h;simp at h
  | cons a l=>simp
 ·split
  ·simp only;omega
  ·simp
theorem unquote_s {G:GH}(hT:TabsG G) {s:ByteArray}(hs:s.size≤4096):Con Tryz.prog 96 #[.string s] G [] (Just (unqV (unquoteB s)) G):=by
 apply Con.just
 (refine v_enter Tryz.func96 rfl Tryz.ntmps96 rfl ?_;intro B _)
 repeat' (first|refine Wa ?_|(refine Wc ⟨?_,?_⟩<;>first|intro h|exact ⟨⟩)|(refine Wb ?_;intro b)|fail)
 refine v_loopI (ι:=Nat×Nat) [5,0,4] (fun x us G' μ'=>G'=G∧∃ v o ν,us=[Value.int .i64 (x.1:Int),.string s,v]∧μ'=ν∧Grow 5 1 v o.size (Lib.strCells o) ν∧1≤x.1∧x.1≤4096∧o.size≤x.1∧(restL s x.1).length≤x.2∧unqL s.size (innerL s)=(unqL x.2 (restL s x.1)).map (o.data.toList ++ ·)) (fun x=>s.size-x.1) rfl (1,s.size) ⟨rfl,_,ByteArray.empty,[],rfl,rfl,Grow.nil _ 1,by simp,by simp,by simp,by rw [restL_len];omega,by
  have e:innerL s=restL s 1:=by
   unfold innerL restL
   rw [Nat.sub_sub]
  rw [e]
  simp only [show ByteArray.empty.data.toList=([]:List UInt8) from rfl,List.nil_append]
  cases unqL s.size (restL s 1)<;>rfl⟩ ?_
 rintro ⟨i,n⟩ us G' μ' ⟨rfl,v,o,ν,rfl,rfl,hg,h1,h2,ho,hn,he⟩
 simp only at h1 h2 ho hn he
 obtain ⟨A,c,rfl,-,-⟩:=hg.shape
 by_cases hi:i<s.size-1
 ·have hn1:=restL_len s i
  obtain ⟨m,rfl⟩:∃ m,n=m+1:=⟨n-1,by omega⟩
  rw [restL_get hi,unqL] at he
  have c1:=get_iff s i 92
  have t1:(92:UInt8).toNat=92:=rfl
  rw [t1] at c1
  have hq:=unescape_s G' (s:=s.extract (i+1) (s.size-1)) (by rw [ByteArray.size_extract];omega)
  rw [restL_extract (by omega) (by omega)] at hq
  have hk:=unesc_len (restL s (i+1))
  have hk2:=restL_len s (i+1)
  have hbi:((byt s i:Nat):Int)=((s.get! i).toNat:Int):=by unfold byt;rfl
  generalize hu:unesc (restL s (i+1))=u at hq he hk
  obtain ⟨uc,uk⟩:=u
  simp only at hq he hk
  by_cases h92:byt s i=92
  ·rw [if_pos (c1.2 h92)] at he
   repeat' (first|(refine Wd 40 ?_;intro b40)|refine Wa ?_|(refine Wc ⟨?_,?_⟩<;>first|intro h|exact ⟨⟩)|refine cJ hq ?_|apply v_pure;(case hop=>apply p_sliceStrI (i+1) (s.size-1) rfl rfl rfl (by simp) (by omega) (by omega) (by omega));(case hd=>rfl)|apply v_append (hg:=hg) (m':=1) (us:=[.int .u8 (uc.toNat:Int)]) (μr:=[(b40,.cells [Value.int .u8 (uc.toNat:Int)].toArray 5 (0,0))]) (hp:=aV) (hsrc:=Src.own (e:=5) (b:=b40) (List.Mem.head _) rfl);(case hzs=>rfl);(case hsz=>omega);(case hs|hx=>rfl);(case hb=>omega);(case hb'=>simp only [maxLen];omega);(case hd|h1=>rfl);intro v3 n3 hg3;obtain ⟨A3,c3,rfl,-,-⟩:=hg3.shape|(refine Wb ?_;intro b)|fail)
   ·refine v_ret [] (outsA2 rfl rfl rfl) sS ?_
    refine ⟨?_,rfl⟩
    rw [if_pos (by omega)] at he
    unfold unquoteB
    rw [if_neg (by omega),he]
    rfl
   ·rw [if_neg (by omega)] at he
    rw [restL_drop] at he
    have hk3:=restL_len s (i+1+uk)
    refine v_drop (List.sublist_append_left _ _) ?_
    refine v_againI (i+uk+1,m) rfl ⟨rfl,_,o.push uc,n3,rfl,rfl,by rw [strCells_push,ByteArray.size_push];exact hg3,by simp only;omega,by simp only;omega,by rw [ByteArray.size_push];simp only;omega,by rw [restL_len];simp only;omega,?_⟩ (by simp only;omega)
    rw [he,show i+1+uk=i+uk+1 by omega]
    cases unqL m (restL s (i+uk+1)) with
    | none=>rfl
    | some l=>simp [ByteArray.push]
  ·rw [if_neg (fun e=>h92 (c1.1 e))] at he
   repeat' (first|(refine Wd 40 ?_;intro b40)|refine Wa ?_|(refine Wc ⟨?_,?_⟩<;>first|intro h|exact ⟨⟩)|apply v_append (hg:=hg) (m':=1) (us:=[.int .u8 (byt s i:Nat)]) (μr:=[(b40,.cells [Value.int .u8 (byt s i:Nat)].toArray 5 (0,0))]) (hp:=aV) (hsrc:=Src.own (e:=5) (b:=b40) (List.Mem.head _) rfl);(case hzs=>rfl);(case hsz=>omega);(case hs|hx=>rfl);(case hb=>omega);(case hb'=>simp only [maxLen];omega);(case hd|h1=>rfl);intro v3 n3 hg3;obtain ⟨A3,c3,rfl,-,-⟩:=hg3.shape|(refine Wb ?_;intro b)|fail)
   have hk3:=restL_len s (i+1)
   rw [hbi] at hg3
   refine v_drop (List.sublist_append_left _ _) ?_
   refine v_againI (i+1,m) rfl ⟨rfl,_,o.push (s.get! i),n3,rfl,rfl,by rw [strCells_push,ByteArray.size_push];exact hg3,by simp only;omega,by simp only;omega,by rw [ByteArray.size_push];simp only;omega,by rw [restL_len];simp only;omega,?_⟩ (by simp only;omega)
   rw [he]
   cases unqL m (restL s (i+1)) with
   | none=>rfl
   | some l=>simp [ByteArray.push]
 ·have hn1:=restL_len s i
  have hnil:restL s i=[]:=List.eq_nil_of_length_eq_zero (by omega)
  rw [hnil,show unqL n []=some [] by cases n<;>rfl] at he
  simp only [Option.map_some,List.append_nil] at he
  have hqq:=quote_s hT (s:=o) (by omega)
  repeat' (first|refine Wa ?_|(refine Wc ⟨?_,?_⟩<;>first|intro h|exact ⟨⟩)|refine cJ hqq ?_|apply v_read;(case hop=>apply r_bytesStr (e:=5) hg (fun x hx=>hx) rfl);(case hd=>rfl)|(refine Wb ?_;intro b)|fail)
  ·refine v_ret [] (outsA2 rfl rfl rfl) sS ?_
   refine ⟨?_,rfl⟩
   unfold unquoteB
   rw [if_pos (by omega)]
   rfl
  ·refine v_ret [] (outsA2 rfl rfl rfl) sS ?_
   refine ⟨?_,rfl⟩
   unfold unquoteB
   rw [if_neg (by omega),he]
   simp only
   rw [if_neg (by assumption)]
   rfl
  ·refine v_ret [] (outsA2 rfl rfl rfl) sS ?_
   refine ⟨?_,rfl⟩
   unfold unquoteB
   rw [if_neg (by omega),he]
   simp only
   rw [if_pos (by assumption)]
   rfl
end Go.Proofs.YtnncjoooaknlmaaGreatDoor
/-
  quote (layer 6), the walks, 5: strings.Cut at a space; word.
-/
namespace Go.Proofs.YtnncjoooaknlmaaGreatDoor
open Go.Vx Go.ChangeShapes Go.WideShapes Go.ChangeAt Go.RowKit
theorem headL_spec:∀ (l:B8L),(∀ j,j<(headL l).length→l.getD j 0≠32)∧((headL l).length<l.length→l.getD (headL l).length 0=32)∧headL l=l.take (headL l).length∧(headL l).length≤l.length
 | []=>⟨fun j h=>by simp [headL] at h,fun h=>by simp [headL] at h,rfl,Nat.le_refl _⟩
 | a::l=>by
  obtain ⟨h1,h2,h3,h4⟩:=headL_spec l
  by_cases ha:a=32
  ·have e:headL (a::l)=[]:=by
    unfold headL
    rw [List.takeWhile_cons,if_neg (by simp [ha])]
   rw [e]
   exact ⟨fun j h=>by simp at h,fun _=>by simpa using ha,rfl,by simp⟩
  ·have e:headL (a::l)=a::headL l:=by
    unfold headL
    rw [List.takeWhile_cons,if_pos (by simpa using ha)]
   rw [e]
   refine ⟨fun j h=>?_,fun h=>?_,?_,by simpa using h4⟩
   ·cases j with
    | zero=>simpa using ha
    | succ j=>exact h1 j (by simpa using h)
   ·exact h2 (by simpa using h)
   ·rw [List.length_cons,List.take_succ_cons,← h3]
theorem getI_getD {s:ByteArray}{i:Nat}(h:i<s.size):s[i]! = s.data.toList.getD i 0:=by
 rw [toList_getD,if_pos h,getElem!_pos s i h]
 simp [ByteArray.get!,getElem!_pos,h]
 rfl
theorem firstIdx_head (s:ByteArray):firstIdx s 32=if (headL s.data.toList).length<s.size then ((headL s.data.toList).length:Int) else -1:=by
 have hl:s.data.toList.length=s.size:=Array.length_toList ..
 obtain ⟨h1,h2,-,h4⟩:=headL_spec s.data.toList
 unfold firstIdx
 by_cases hm:(headL s.data.toList).length<s.size
 ·rw [if_pos hm]
  have e:(List.range s.size).find? (fun i=>s[i]! == 32)=some (headL s.data.toList).length:=by
   rw [List.find?_range_eq_some]
   refine ⟨?_,List.mem_range.2 hm,fun j hj=>?_⟩
   ·rw [getI_getD hm,h2 (by omega)];rfl
   ·rw [getI_getD (by omega)]
    simpa using h1 j hj
  rw [e]
 ·rw [if_neg hm]
  have e:(List.range s.size).find? (fun i=>s[i]! == 32)=none:=by
   rw [List.find?_range_eq_none]
   intro j hj
   rw [getI_getD hj]
   simpa using h1 j (by omega)
  rw [e]
def spB:ByteArray:=⟨#[32]⟩
theorem spB_size:spB.size=1:=rfl
instance:Callable Tryz.prog 80:=callable_of Tryz.func80 (by kernel_rfl) rfl
instance:Callable Tryz.prog 44:=callable_of Tryz.func44 (by kernel_rfl) rfl
theorem indexSp_s (G:GH) (s:ByteArray):Con Tryz.prog 80 #[.string s,.string spB] G [] (Just (.int .i64 (firstIdx s 32)) G):=by
 have q:Con Tryz.prog 122 #[.string s,.int .u8 (byt spB 0:Nat)] G [] (Just (.int .i64 (firstIdx s 32)) G):=by
  unfold byt
  exact indexByteL_s G s 32
 have hz:=spB_size
 have hs:spB=s→firstIdx s 32=0:=by rintro rfl;rfl
 generalize firstIdx s 32=r at q hs ⊢
 (refine v_enter Tryz.func80 rfl Tryz.ntmps80 rfl ?_;intro B _)
 repeat' (first|refine Wa ?_|(refine Wc ⟨?_,?_⟩<;>first|intro h|exact ⟨⟩)|refine cJ q ?_|refine Wr ?_|fail)
 all_goals
  (refine Vr ?_
   refine ⟨?_,rfl,rfl⟩
   first
    | rfl
    |(rw [hs (by assumption)];done)
    | omega)
def cutV (s:ByteArray):Value:=if (headL s.data.toList).length<s.size then .tuple [.string (s.extract 0 (headL s.data.toList).length),.string (s.extract ((headL s.data.toList).length+1) s.size),.bool true].toArray else .tuple [.string s,.string .empty,.bool false].toArray
theorem cutL_s (G:GH) {s:ByteArray}(hn:s.size≤65536):Con Tryz.prog 44 #[.string s,.string spB] G [] (Just (cutV s) G):=by
 have q:=indexSp_s G s
 have hz:=spB_size
 rw [firstIdx_head] at q
 unfold cutV
 generalize (headL s.data.toList).length=m at q ⊢
 by_cases hm:m<s.size
 ·rw [if_pos hm] at q ⊢
  (refine v_enter Tryz.func44 rfl Tryz.ntmps44 rfl ?_;intro B _)
  repeat' (first|refine Wa ?_|(refine Wc ⟨?_,?_⟩<;>first|intro h|exact ⟨⟩)|refine cJ q ?_|fail)
  ·refine Dz [] ?_
   all_goals refine Dt [0,1] ?_
   all_goals (first|refine Tv 2 ?_ (hop:=by first|apply PureOp.read;apply p_sliceStrH rfl rfl (by omega) (by omega)|fail)|refine Tv 2 ?_ (hop:=by first|apply PureOp.read;apply p_sliceStrL rfl rfl (by omega) (by omega)|fail)|refine Dt [2] ?_)
   all_goals refine Dt [3,4,5,6] ?_
   all_goals (first|refine Tv 7 ?_ (hop:=by first|apply PureOp.read;apply p_sliceStrH rfl rfl (by omega) (by omega)|fail)|refine Tv 7 ?_ (hop:=by first|apply PureOp.read;apply p_sliceStrL rfl rfl (by omega) (by omega)|fail)|refine Dt [7] ?_)
   all_goals (first|refine Tv 8 ?_ (hop:=by first|apply PureOp.read;apply p_sliceStrH rfl rfl (by omega) (by omega)|fail)|refine Tv 8 ?_ (hop:=by first|apply PureOp.read;apply p_sliceStrL rfl rfl (by omega) (by omega)|fail)|refine Dt [8] ?_)
   all_goals refine Dt [9,10,11] ?_
   all_goals refine Dd ?_
   repeat' (first|refine Wa ?_|(refine Wc ⟨?_,?_⟩<;>first|intro h|exact ⟨⟩)|fail)
   refine v_ret [] (outsA3 rfl rfl rfl rfl) sS ?_
   refine ⟨?_,rfl,rfl⟩
   rw [hz,Int.toNat_natCast,show ((m:Int)+((1:Nat):Int)).toNat=m+1 by omega]
  all_goals omega
 ·rw [if_neg hm] at q ⊢
  (refine v_enter Tryz.func44 rfl Tryz.ntmps44 rfl ?_;intro B _)
  repeat' (first|refine Wa ?_|(refine Wc ⟨?_,?_⟩<;>first|intro h|exact ⟨⟩)|refine cJ q ?_|fail)
  refine v_ret [] (outsA3 rfl rfl rfl rfl) sS ?_
  exact ⟨rfl,rfl,rfl⟩
theorem cut_s (G:GH) {s:ByteArray}(hn:s.size≤65536):Con Tryz.prog 14 #[.string s,.string spB] G [] (Just (cutV s) G):=by
 have q:=cutL_s G hn
 obtain ⟨a,b,c,e⟩:∃ a b c,cutV s=.tuple [.string a,.string b,.bool c].toArray:=by
  unfold cutV
  split<;>exact ⟨_,_,_,rfl⟩
 rw [e] at q ⊢
 (refine v_enter Tryz.func14 rfl Tryz.ntmps14 rfl ?_;intro B _)
 repeat' (first|refine Wa ?_|(refine Wc ⟨?_,?_⟩<;>first|intro h|exact ⟨⟩)|refine cJ q ?_|fail)
 refine v_ret [] (outsA3 rfl rfl rfl rfl) sS ?_
 exact ⟨rfl,rfl,rfl⟩
end Go.Proofs.YtnncjoooaknlmaaGreatDoor
/-
  quote (layer 6), the walks, 6: word.
-/
set_option maxHeartbeats 2000000
namespace Go.Proofs.YtnncjoooaknlmaaGreatDoor
open Go.Vx Go.ChangeShapes Go.WideShapes Go.ChangeAt Go.RowKit
section
attribute [local semireducible] MoveOp
theorem m_strBytes {P:Program}{ty t t' e:TypeId}{σ:Env}{G:GH}{μ:OH}{x:Operand}{u:ByteArray}[hS:Ty P t .string] [hT:Ty P t' (.slice e)] [hE:Ty P e (.int .u8)] (hx:Env.ev σ x=some (.string u)) :
 MoveOp P (.convert t t' x) ty σ G μ (fun v G' μ'=>∃ b cap fr,v=.slice (some ⟨b,0,none⟩) u.size cap∧G'=G∧μ'=(b,.cells (bytesRow u cap) e fr)::μ):=by
 intro dst pos af g ρ hρ w hw a K Q hK
 have hr:=run_bytes_of_string (P:=P) w t t' e u hS.h hT.h hE.h
 have hex:(execOp ρ ⟨dst,.convert t t' x,ty,pos,af,g⟩).run P w=.ok (.value (.slice (some ⟨w.heap.size,0,none⟩) u.size (grownCap w u.size 0 e)))
  (w.drew.alloc (.cells (bytesRow u (grownCap w u.size 0 e)) e ((bytesRow u (grownCap w u.size 0 e)).size,(bytesRow u (grownCap w u.size 0 e)).size+1))):=by
  simp [execOp,hρ _ _ hx,hr]
 rw [hex]
 have hst:=(Step.drew hw 1).trans (Step.alloc (Step.drew hw 1).mem (.cells (bytesRow u (grownCap w u.size 0 e)) e ((bytesRow u (grownCap w u.size 0 e)).size,(bytesRow u (grownCap w u.size 0 e)).size+1)))
 exact hK _ _ G _ hst ⟨_,_,_,rfl,rfl,rfl⟩
end
theorem cell_ownF {G:GH}{μ:OH}{b i:Nat}{cs:Array Value}{e:TypeId}{fr:Nat×Nat}{v:Value}(h:(b,Obj.cells cs e fr)∈μ) (hv:cs[i]? = some v):Go.Vx.Cell G μ ⟨b,i,none⟩ v:=by
 intro w hw
 have:=hw.own _ _ h
 unfold World.cell?
 simp only [this]
 simpa using hv
theorem bytesRow_at {u:ByteArray}{cap i:Nat}(h:i<u.size):(bytesRow u cap)[i]? = some (.int .u8 (byt u i:Nat)):=by
 have h1:i<u.data.size:=h
 unfold bytesRow
 rw [Array.getElem?_append_left (by simpa using h1),Array.getElem?_map,Array.getElem?_eq_getElem h1,byt_eq h]
 rfl
theorem cell_byte {G:GH}{μ:OH}{b i cap:Nat}{u:ByteArray}{e:TypeId}{fr:Nat×Nat}(h:(b,Obj.cells (bytesRow u cap) e fr)∈μ) (hi:i<u.size):Go.Vx.Cell G μ ((⟨b,0,none⟩:Addr).add (((i:Nat):Int).toNat*1)) (.int .u8 (byt u i:Nat)):=by
 rw [Int.toNat_natCast,Nat.mul_one,add_mk,Nat.zero_add]
 exact cell_ownF h (bytesRow_at hi)
def WordA (s:ByteArray) (a:ByteArray) (b:Bool):Prop:=match wordL s.data.toList with
 | some w=>a=⟨w.toArray⟩∧b=true
 | none=>b=false
theorem cutV_ex (s:ByteArray):∃ a b c,cutV s=.tuple [.string a,.string b,.bool c].toArray∧a.data.toList=headL s.data.toList∧a.size≤s.size:=by
 have hl:s.data.toList.length=s.size:=Array.length_toList ..
 obtain ⟨-,-,h3,h4⟩:=headL_spec s.data.toList
 unfold cutV
 split
 ·refine ⟨_,_,_,rfl,?_,?_⟩
  ·have:=piece_toList s 0 (headL s.data.toList).length
   rw [Nat.zero_add] at this
   rw [this]
   unfold pieceL
   rw [List.drop_zero,← h3]
  ·rw [ByteArray.size_extract];omega
 ·refine ⟨_,_,_,rfl,?_,Nat.le_refl _⟩
  rw [h3,List.take_of_length_le (by omega)]
theorem ba_of_list {a:ByteArray}{l:B8L}(h:a.data.toList=l):a=⟨l.toArray⟩:=by
 subst h
 rfl
theorem qlen_le:∀ (n:Nat) (l:B8L) (i:Nat),qlen n l i≤i+l.length
 | 0,l,i=>Nat.zero_le _
 | n+1,[],i=>Nat.zero_le _
 | n+1,c::l,i=>by
  unfold qlen
  split
  ·cases l with
   | nil =>
    show qlen n [] (i+2)≤_
    rw [qlen_nil]
    exact Nat.zero_le _
   | cons a l =>
    have:=qlen_le n l (i+2)
    simp only [List.drop_succ_cons,List.drop_zero,List.length_cons]
    omega
  ·split
   ·simp only [List.length_cons];omega
   ·have:=qlen_le n l (i+1)
    simp only [List.length_cons]
    omega
theorem word_s {G:GH}(hT:TabsG G) {s:ByteArray}(hs:s.size≤4096):Con Tryz.prog 86 #[.string s] G [] (fun r G' μ'=>G'=G∧μ'=[]∧∃ a b,r=.tuple [.string a,.bool b].toArray∧WordA s a b):=by
 have q1:=quoted_s G (s:=s) (by omega)
 have q3:=cut_s G (s:=s) (by omega)
 obtain ⟨ha,hb,hc,hcut,hal,hasz⟩:=cutV_ex s
 rw [hcut] at q3
 have c1:=get_iff s 0 34
 have t1:(34:UInt8).toNat=34:=rfl
 rw [t1] at c1
 have g0:=toList_getD s 0
 have g1:s.data.toList.headD 0=s.data.toList.getD 0 0:=by cases s.data.toList<;>rfl
 rw [g0] at g1
 by_cases hq:0<s.size∧byt s 0=34
 ·have hl:s.data.toList.length=s.size:=Array.length_toList ..
  have hq34:s.data.toList.headD 0=34:=by rw [g1,if_pos hq.1];exact c1.2 hq.2
  have hle:=qlen_le s.size (s.data.toList.drop 1) 1
  rw [List.length_drop,hl] at hle
  have hwl:wordL s.data.toList=if (unquoteB ⟨(s.data.toList.take (qlen s.size (s.data.toList.drop 1) 1)).toArray⟩).isSome then some (s.data.toList.take (qlen s.size (s.data.toList.drop 1) 1)) else none:=by
   unfold wordL
   rw [if_pos hq34,hl]
  generalize qlen s.size (s.data.toList.drop 1) 1=m at q1 hle hwl
  have hml:m≤s.size:=by omega
  have hex:s.extract 0 m=⟨(s.data.toList.take m).toArray⟩:=by
   have:=piece_toList s 0 m
   rw [Nat.zero_add] at this
   unfold pieceL at this
   rw [List.drop_zero] at this
   exact ba_of_list this
  have hn0:¬ s=⟨#[]⟩:=by
   intro e
   have h0:s.size=0:=by rw [e];rfl
   omega
  have q2:=unquote_s hT (s:=s.extract 0 m) (by rw [ByteArray.size_extract];omega)
  rw [← hex] at hwl
  cases hu:unquoteB (s.extract 0 m) with
  | some o =>
   rw [hu] at q2 hwl
   (refine v_enter Tryz.func86 rfl Tryz.ntmps86 rfl ?_;intro B _)
   repeat' (first|(exact absurd (show s=⟨#[]⟩ by assumption) hn0)|refine Wa ?_|(refine Wc ⟨?_,?_⟩<;>first|intro h|exact ⟨⟩)|refine cJ q1 ?_|apply v_pure;(case hop=>apply p_sliceStrH rfl rfl (by omega) (by omega));(case hd=>rfl)|refine cJ q2 ?_|refine Wr ?_|fail)
   ·refine v_ret [] (outsA2 rfl rfl rfl) sS ?_
    refine ⟨rfl,rfl,_,_,rfl,?_⟩
    unfold WordA
    rw [hwl]
    exact ⟨hex,rfl⟩
   ·exact absurd hq.2 (by rename_i h;rw [show Int.toNat 0=0 from rfl] at h;omega)
  | none =>
   rw [hu] at q2 hwl
   (refine v_enter Tryz.func86 rfl Tryz.ntmps86 rfl ?_;intro B _)
   repeat' (first|(exact absurd (show s=⟨#[]⟩ by assumption) hn0)|refine Wa ?_|(refine Wc ⟨?_,?_⟩<;>first|intro h|exact ⟨⟩)|refine cJ q1 ?_|apply v_pure;(case hop=>apply p_sliceStrH rfl rfl (by omega) (by omega));(case hd=>rfl)|refine cJ q2 ?_|refine Wr ?_|fail)
   ·refine v_ret [] (outsA2 rfl rfl rfl) sS ?_
    refine ⟨rfl,rfl,_,_,rfl,?_⟩
    unfold WordA
    rw [hwl,if_neg (by decide)]
    exact dec_neg (by decide)
   ·exact absurd hq.2 (by rename_i h;rw [show Int.toNat 0=0 from rfl] at h;omega)
 ·have hne:¬ s.data.toList.headD 0=34:=by
   rw [g1]
   split
   ·rw [c1];omega
   ·decide
  have hwl:wordL s.data.toList=if (headL s.data.toList).any (fun b=>decide (b.toNat<32)) then none else if headL s.data.toList=[] then none else some (headL s.data.toList):=by
   unfold wordL
   rw [if_neg hne]
  have hpos:s=⟨#[]⟩∨0<s.size:=by
   by_cases h:0<s.size
   ·exact .inr h
   ·exact .inl (ByteArray.ext (Array.eq_empty_of_size_eq_zero (by show s.size=0;omega)))
  rcases hpos with h0|h0
  ·(refine v_enter Tryz.func86 rfl Tryz.ntmps86 rfl ?_;intro B _)
   repeat' (first|(exact absurd h0 (by assumption))|refine Wa ?_|(refine Wc ⟨?_,?_⟩<;>first|intro h|exact ⟨⟩)|refine cJ q3 ?_|(refine v_move (m_strBytes (e:=5) rfl) rfl ?_;rintro _ G _ ⟨bb,cap,fr,rfl,rfl,rfl⟩)|refine Wr ?_|fail)
   all_goals
    (refine v_loopI (ι:=Nat) [42,41,40,7] (fun x us G' μ'=>G'=G∧us=[Value.int .i64 (x:Int),.int .i64 (ha.size:Int),.slice (some ⟨bb,0,none⟩) ha.size cap,.string ha]∧μ'=[(bb,.cells (bytesRow ha cap) 5 fr)]∧x≤ha.size∧∀ j,j<x→32≤byt ha j) (fun x=>ha.size-x) rfl 0 ⟨rfl,rfl,rfl,by omega,by omega⟩ ?_
     rintro i us G' μ' ⟨rfl,rfl,rfl,hi,hlo⟩)
   all_goals
    (by_cases hi2:i<ha.size
     ·repeat' (first|refine Wa ?_|(refine Wc ⟨?_,?_⟩<;>first|intro h|exact ⟨⟩)|apply v_read;(case hop=>(apply r_load1;rfl;exact cell_byte (List.Mem.head _) hi2));(case hd=>rfl)|refine Wr ?_|fail)
      ·refine v_ret [] (outsA2 rfl rfl rfl) sS ?_
       refine ⟨rfl,rfl,_,_,rfl,?_⟩
       unfold WordA
       rw [hwl,if_pos (List.any_eq_true.2 ⟨ha.get! i,by rw [← hal];exact List.mem_iff_getElem?.2 ⟨i,byt_toList ha i hi2⟩,by
        have e:(ha.get! i).toNat=byt ha i:=by unfold byt;rfl
        simp only [decide_eq_true_eq]
        omega⟩)]
      ·refine v_againI (i+1) rfl ⟨rfl,rfl,rfl,by omega,fun j hj=>?_⟩ (by omega)
       by_cases e:j=i
       ·subst e;omega
       ·exact hlo j (by omega)
     ·repeat' (first|refine Wa ?_|(refine Wc ⟨?_,?_⟩<;>first|intro h|exact ⟨⟩)|refine Wr ?_|fail)
      refine v_ret [] (outsA2 rfl rfl rfl) sS ?_
      refine ⟨rfl,rfl,_,_,rfl,?_⟩
      unfold WordA
      rw [hwl,if_neg (by
       rw [List.any_eq_true]
       rintro ⟨x,hx,hx2⟩
       rw [← hal] at hx
       obtain ⟨j,hj⟩:=List.mem_iff_getElem?.1 hx
       have hjl:j<ha.data.toList.length:=(List.getElem?_eq_some_iff.1 hj).1
       have hl:ha.data.toList.length=ha.size:=Array.length_toList ..
       have e:=byt_toList ha j (by omega)
       rw [hj] at e
       have e2:(ha.get! j).toNat=byt ha j:=by unfold byt;rfl
       have:=hlo j (by omega)
       simp only [decide_eq_true_eq] at hx2
       rw [Option.some.inj e] at hx2
       omega)]
      by_cases hz:headL s.data.toList=[]
      ·rw [if_pos hz]
       rw [hz] at hal
       have:ha=⟨#[]⟩:=ba_of_list hal
       simp only
       rw [dec_pos this]
       rfl
      ·rw [if_neg hz]
       have:¬ ha=⟨#[]⟩:=by
        intro e
        rw [e] at hal
        exact hz hal.symm
       simp only
       rw [dec_neg this]
       exact ⟨ba_of_list hal,rfl⟩)
  ·(refine v_enter Tryz.func86 rfl Tryz.ntmps86 rfl ?_;intro B _)
   repeat' (first|(exact absurd ⟨h0,by omega⟩ hq)|refine Wa ?_|(refine Wc ⟨?_,?_⟩<;>first|intro h|exact ⟨⟩)|refine cJ q3 ?_|(refine v_move (m_strBytes (e:=5) rfl) rfl ?_;rintro _ G _ ⟨bb,cap,fr,rfl,rfl,rfl⟩)|refine Wr ?_|fail)
   all_goals
    (refine v_loopI (ι:=Nat) [42,41,40,7] (fun x us G' μ'=>G'=G∧us=[Value.int .i64 (x:Int),.int .i64 (ha.size:Int),.slice (some ⟨bb,0,none⟩) ha.size cap,.string ha]∧μ'=[(bb,.cells (bytesRow ha cap) 5 fr)]∧x≤ha.size∧∀ j,j<x→32≤byt ha j) (fun x=>ha.size-x) rfl 0 ⟨rfl,rfl,rfl,by omega,by omega⟩ ?_
     rintro i us G' μ' ⟨rfl,rfl,rfl,hi,hlo⟩)
   all_goals
    (by_cases hi2:i<ha.size
     ·repeat' (first|refine Wa ?_|(refine Wc ⟨?_,?_⟩<;>first|intro h|exact ⟨⟩)|apply v_read;(case hop=>(apply r_load1;rfl;exact cell_byte (List.Mem.head _) hi2));(case hd=>rfl)|refine Wr ?_|fail)
      ·refine v_ret [] (outsA2 rfl rfl rfl) sS ?_
       refine ⟨rfl,rfl,_,_,rfl,?_⟩
       unfold WordA
       rw [hwl,if_pos (List.any_eq_true.2 ⟨ha.get! i,by rw [← hal];exact List.mem_iff_getElem?.2 ⟨i,byt_toList ha i hi2⟩,by
        have e:(ha.get! i).toNat=byt ha i:=by unfold byt;rfl
        simp only [decide_eq_true_eq]
        omega⟩)]
      ·refine v_againI (i+1) rfl ⟨rfl,rfl,rfl,by omega,fun j hj=>?_⟩ (by omega)
       by_cases e:j=i
       ·subst e;omega
       ·exact hlo j (by omega)
     ·repeat' (first|refine Wa ?_|(refine Wc ⟨?_,?_⟩<;>first|intro h|exact ⟨⟩)|refine Wr ?_|fail)
      refine v_ret [] (outsA2 rfl rfl rfl) sS ?_
      refine ⟨rfl,rfl,_,_,rfl,?_⟩
      unfold WordA
      rw [hwl,if_neg (by
       rw [List.any_eq_true]
       rintro ⟨x,hx,hx2⟩
       rw [← hal] at hx
       obtain ⟨j,hj⟩:=List.mem_iff_getElem?.1 hx
       have hjl:j<ha.data.toList.length:=(List.getElem?_eq_some_iff.1 hj).1
       have hl:ha.data.toList.length=ha.size:=Array.length_toList ..
       have e:=byt_toList ha j (by omega)
       rw [hj] at e
       have e2:(ha.get! j).toNat=byt ha j:=by unfold byt;rfl
       have:=hlo j (by omega)
       simp only [decide_eq_true_eq] at hx2
       rw [Option.some.inj e] at hx2
       omega)]
      by_cases hz:headL s.data.toList=[]
      ·rw [if_pos hz]
       rw [hz] at hal
       have:ha=⟨#[]⟩:=ba_of_list hal
       simp only
       rw [dec_pos this]
       rfl
      ·rw [if_neg hz]
       have:¬ ha=⟨#[]⟩:=by
        intro e
        rw [e] at hal
        exact hz hal.symm
       simp only
       rw [dec_neg this]
       exact ⟨ba_of_list hal,rfl⟩)
end Go.Proofs.YtnncjoooaknlmaaGreatDoor
